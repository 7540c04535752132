/- Written by a program of this session (a turned copy of the kit's printer): what each Go function answers, and that it does. -/
import Derived.Test.YtneeokmfpiacoaaDoorPFnJobsx0
import Derived.Test.YtneeokmfpiacoaaDoorPFnJobsx1
import Derived.Test.YtneeokmfpiacoaaDoorPFnJobsx2
import Derived.Test.YtneeokmfpiacoaaDoorPFnJobsx3
import Derived.Test.YtneeokmfpiacoaaDoorPFnJobsx5
import Derived.Test.YtneeokmfpiacoaaDoorPFnJobsx6
namespace Go.Proofs.YtneeokmfpiacoaaDoor.PFnJobs
open Go.RowKit Go.Proofs.YtneeokmfpiacoaaDoorW.PrintWords Go.Proofs.YtneeokmfpiacoaaDoorW.PrintLast Go.Proofs.YtneeokmfpiacoaaDoorW.PrintMore
attribute [local go_sem] max2_int min2_int max_two min_two max_three min_three max_four min_four   -- for this text's walks alone
set_option linter.unusedVariables false
set_option linter.unusedSimpArgs false

attribute [local go_sem high] eqA26
/-! ### laws_btoi: function 16 -/
def laws_btoi.f (a0 : Bool) : Option (Int) := if a0 = true then (some 1) else (some 0)
set_option maxHeartbeats 8000000 in
set_option maxRecDepth 100000 in
theorem laws_btoi.calls (a0 : Bool) (r : Int) (w : World) (h : laws_btoi.f a0 = some r) :
    Calls Tryd.prog 16 #[.bool a0] w fun e w' => e = .returned (.int .i64 r) ∧ Drawn0 w w' := by
  have H : (if a0 = true then (some 1) else (some 0)) = some r := h
  clear h
  by_cases c2 : a0 = true
  · subst c2
    have H1 : (some 1) = some r := by rw [if_pos rfl] at H; exact H
    clear H
    have H := H1
    clear H1
    obtain rfl := Option.some.inj H
    go_enter Tryd.func16, Tryd.ntmps16
    go_wp2
    go_ret
    exact ⟨by first | rfl | (simp; done) | (simp [*]; done), by repeat (first | exact Drawn0.refl _ | apply Drawn0.step)⟩
  · replace c2 := Bool.eq_false_iff.mpr c2
    subst c2
    have H1 : (some 0) = some r := by rw [if_neg (show ¬ (false = true) by decide)] at H; exact H
    clear H
    have H := H1
    clear H1
    obtain rfl := Option.some.inj H
    go_enter Tryd.func16, Tryd.ntmps16
    go_wp2
    go_ret
    exact ⟨by first | rfl | (simp; done) | (simp [*]; done), by repeat (first | exact Drawn0.refl _ | apply Drawn0.step)⟩

/-! ### laws_FnJobs: function 5 -/
def laws_FnJobs.l0 : Nat → Bool → Bool → Int → Int → Int → Int → Int → Int → Bool → Int → Bool → Int → Int → Int → Bool → Int → Bool → Option (Bool)
  | 0, _, _, _, _, _, _, _, _, _, _, _, _, _, _, _, _, _ => none
  | k + 1, x5, x7, x8, x9, x10, x237000, x237001, x237002, x237003, x237004, x237005, x247000, x247001, x247002, x247003, x247004, x247005 => if x10 < x8 then ((impl_PageOfSheet.f k x237000 x237001 x237002 x237003 x237004 x237005 x10).bind fun bt251 => (if bt251.1 < 1 then (some false) else (if bt251.1 > x237001 then (some false) else (if bt251.2 = 0 then ((laws_btoi.f (bt251.2 != 0)).bind fun t253 => (laws_FnJobs.l0 k x5 x7 x8 (wrap64 ((wrap64 (x9 + 1)) + t253)) (wrap64 (x10 + 1)) x237000 x237001 x237002 x237003 x237004 x237005 x247000 x247001 x247002 x247003 x247004 x247005)) else (if bt251.2 = (wrap64 (bt251.1 + 1)) then (if x237003 = true then ((laws_btoi.f (bt251.2 != 0)).bind fun t254 => (laws_FnJobs.l0 k x5 x7 x8 (wrap64 ((wrap64 (x9 + 1)) + t254)) (wrap64 (x10 + 1)) x237000 x237001 x237002 x237003 x237004 x237005 x247000 x247001 x247002 x247003 x247004 x247005)) else (some false)) else (some false)))))) else ((impl_PageOfSheet.f k x237000 x237001 x237002 x237003 x237004 x237005 x8).bind fun bt248 => ((impl_JobOk.f x237000 x237001 x237002 x237003 x237004 x237005).bind fun t250 => (if t250 = true then (if x5 = true then (if x7 = true then (if (x247000 == x237000 && (x247001 == x237001 && (x247002 == x237002 && (x247003 == x237003 && (x247004 == x237004 && (x247005 == x237005)))))) = true then (if x9 = (wrap64 (x237002 * x237001)) then (if bt248.1 = 0 then (some (bt248.2 == 0)) else (some false)) else (some false)) else (some false)) else (some false)) else (some false)) else (some false))))
def laws_FnJobs.f (k : Nat) (l0 : List Int) : Option (Bool) := (laws_big.f l0).bind fun t229 => (if t229 = true then (some true) else ((spec_DrawJob.f k l0).bind fun bt230 => ((impl_FormatJob.f bt230.1 bt230.2.1 bt230.2.2.1 bt230.2.2.2.1 bt230.2.2.2.2.1 bt230.2.2.2.2.2).bind fun bt237 => (if 1 + bt237.1.size ≤ 9223372036854775807 then (if ((⟨#[32]⟩ : ByteArray) ++ bt237.1).size + 1 ≤ 9223372036854775807 then ((impl_ParseJob.f k (((⟨#[32]⟩ : ByteArray) ++ bt237.1) ++ (⟨#[32]⟩ : ByteArray))).bind fun bt239 => ((impl_JobSheets.f k bt230.1 bt230.2.1 bt230.2.2.1 bt230.2.2.2.1 bt230.2.2.2.2.1 bt230.2.2.2.2.2).bind fun t247 => (if t247 > 1280 then (some false) else (laws_FnJobs.l0 k bt237.2 bt239.2.2.2.2.2.2 t247 0 0 bt230.1 bt230.2.1 bt230.2.2.1 bt230.2.2.2.1 bt230.2.2.2.2.1 bt230.2.2.2.2.2 bt239.1 bt239.2.1 bt239.2.2.1 bt239.2.2.2.1 bt239.2.2.2.2.1 bt239.2.2.2.2.2.1)))) else (none)) else (none)))))
theorem laws_FnJobs.mono_l : ∀ k, (∀ y0 y1 y2 y3 y4 y5 y6 y7 y8 y9 y10 y11 y12 y13 y14 y15 y16, LeO (laws_FnJobs.l0 k y0 y1 y2 y3 y4 y5 y6 y7 y8 y9 y10 y11 y12 y13 y14 y15 y16) (laws_FnJobs.l0 (k + 1) y0 y1 y2 y3 y4 y5 y6 y7 y8 y9 y10 y11 y12 y13 y14 y15 y16))
  | 0 => fun _ _ _ _ _ _ _ _ _ _ _ _ _ _ _ _ _ r h => by simp [laws_FnJobs.l0] at h
  | k + 1 => by
    have ih0 := laws_FnJobs.mono_l k
    · intro y0 y1 y2 y3 y4 y5 y6 y7 y8 y9 y10 y11 y12 y13 y14 y15 y16
      unfold laws_FnJobs.l0
      repeat' first
      | (with_reducible exact ih0 _ _ _ _ _ _ _ _ _ _ _ _ _ _ _ _ _)
      | (with_reducible exact impl_JobSheets.mono _ _ _ _ _ _ _)
      | (with_reducible exact impl_PageOfSheet.mono _ _ _ _ _ _ _ _)
      | (with_reducible exact impl_ParseJob.mono _ _)
      | (with_reducible exact spec_DrawJob.mono _ _)
      | (with_reducible exact LeO.refl _)
      | (with_reducible exact LeO.none _)
      | (with_reducible refine LeO.ite ?_ ?_)
      | (with_reducible refine LeO.bind ?_ (fun _ => ?_))
      | exact ih0 _ _ _ _ _ _ _ _ _ _ _ _ _ _ _ _ _
      | exact impl_JobSheets.mono _ _ _ _ _ _ _
      | exact impl_PageOfSheet.mono _ _ _ _ _ _ _ _
      | exact impl_ParseJob.mono _ _
      | exact spec_DrawJob.mono _ _
      | exact LeO.none _
      | refine LeO.ite ?_ ?_
      | refine LeO.bind ?_ (fun _ => ?_)
theorem laws_FnJobs.mono : ∀ a0 k, LeO (laws_FnJobs.f k a0) (laws_FnJobs.f (k + 1) a0) := by
  intro a0 k
  have ih0 := laws_FnJobs.mono_l k
  unfold laws_FnJobs.f
  repeat' first
      | (with_reducible exact ih0 _ _ _ _ _ _ _ _ _ _ _ _ _ _ _ _ _)
      | (with_reducible exact impl_JobSheets.mono _ _ _ _ _ _ _)
      | (with_reducible exact impl_PageOfSheet.mono _ _ _ _ _ _ _ _)
      | (with_reducible exact impl_ParseJob.mono _ _)
      | (with_reducible exact spec_DrawJob.mono _ _)
      | (with_reducible exact LeO.refl _)
      | (with_reducible exact LeO.none _)
      | (with_reducible refine LeO.ite ?_ ?_)
      | (with_reducible refine LeO.bind ?_ (fun _ => ?_))
      | exact ih0 _ _ _ _ _ _ _ _ _ _ _ _ _ _ _ _ _
      | exact impl_JobSheets.mono _ _ _ _ _ _ _
      | exact impl_PageOfSheet.mono _ _ _ _ _ _ _ _
      | exact impl_ParseJob.mono _ _
      | exact spec_DrawJob.mono _ _
      | exact LeO.none _
      | refine LeO.ite ?_ ?_
      | refine LeO.bind ?_ (fun _ => ?_)
set_option maxHeartbeats 8000000 in
set_option maxRecDepth 100000 in
theorem laws_FnJobs.calls (k : Nat) (A0 : Option Addr) (c0 : Nat) (l0 : List Int) (r : Bool) (w : World) (hr0 : Kd.C (Kd.int .u8) w A0 l0.length l0) (hc0 : l0.length ≤ c0) (h : laws_FnJobs.f k l0 = some r) (hT : Tabs w) :
    Calls Tryd.prog 5 #[.slice A0 l0.length c0] w fun e w' => e = .returned (.bool r) ∧ Below w.heap.size w w' := by
  have HT := Aside0.mk hT
  clear hT
  have hu26 := Tryd.underlying26
  have HR0 := Aside0.mk hr0
  have HC0 := Aside0.mk hc0
  clear hr0 hc0
  have HB := Aside0.mk (Below.refl w.heap.size w)
  have H : ((laws_big.f l0).bind fun t229 => (if t229 = true then (some true) else ((spec_DrawJob.f k l0).bind fun bt230 => ((impl_FormatJob.f bt230.1 bt230.2.1 bt230.2.2.1 bt230.2.2.2.1 bt230.2.2.2.2.1 bt230.2.2.2.2.2).bind fun bt237 => (if 1 + bt237.1.size ≤ 9223372036854775807 then (if ((⟨#[32]⟩ : ByteArray) ++ bt237.1).size + 1 ≤ 9223372036854775807 then ((impl_ParseJob.f k (((⟨#[32]⟩ : ByteArray) ++ bt237.1) ++ (⟨#[32]⟩ : ByteArray))).bind fun bt239 => ((impl_JobSheets.f k bt230.1 bt230.2.1 bt230.2.2.1 bt230.2.2.2.1 bt230.2.2.2.2.1 bt230.2.2.2.2.2).bind fun t247 => (if t247 > 1280 then (some false) else (laws_FnJobs.l0 k bt237.2 bt239.2.2.2.2.2.2 t247 0 0 bt230.1 bt230.2.1 bt230.2.2.1 bt230.2.2.2.1 bt230.2.2.2.2.1 bt230.2.2.2.2.2 bt239.1 bt239.2.1 bt239.2.2.1 bt239.2.2.2.1 bt239.2.2.2.2.1 bt239.2.2.2.2.2.1)))) else (none)) else (none)))))) = some r := h
  clear h
  replace H := Option.bind_eq_some_iff.mp H
  obtain ⟨t229, A20, H⟩ := H
  replace H : (if t229 = true then (some true) else ((spec_DrawJob.f k l0).bind fun bt230 => ((impl_FormatJob.f bt230.1 bt230.2.1 bt230.2.2.1 bt230.2.2.2.1 bt230.2.2.2.2.1 bt230.2.2.2.2.2).bind fun bt237 => (if 1 + bt237.1.size ≤ 9223372036854775807 then (if ((⟨#[32]⟩ : ByteArray) ++ bt237.1).size + 1 ≤ 9223372036854775807 then ((impl_ParseJob.f k (((⟨#[32]⟩ : ByteArray) ++ bt237.1) ++ (⟨#[32]⟩ : ByteArray))).bind fun bt239 => ((impl_JobSheets.f k bt230.1 bt230.2.1 bt230.2.2.1 bt230.2.2.2.1 bt230.2.2.2.2.1 bt230.2.2.2.2.2).bind fun t247 => (if t247 > 1280 then (some false) else (laws_FnJobs.l0 k bt237.2 bt239.2.2.2.2.2.2 t247 0 0 bt230.1 bt230.2.1 bt230.2.2.1 bt230.2.2.2.1 bt230.2.2.2.2.1 bt230.2.2.2.2.2 bt239.1 bt239.2.1 bt239.2.2.1 bt239.2.2.2.1 bt239.2.2.2.2.1 bt239.2.2.2.2.2.1)))) else (none)) else (none))))) = some r := H
  have A2 := Aside0.mk A20
  clear A20
  by_cases c3 : t229 = true
  · subst c3
    have H1 : (some true) = some r := by rw [if_pos rfl] at H; exact H
    clear H
    have H := H1
    clear H1
    obtain rfl := Option.some.inj H
    go_enter Tryd.func5, Tryd.ntmps5
    go_wp2_with (first | ((with_reducible refine gate_callee (f := 12) rfl ?_); refine goesL_ (some 16) rfl rfl Tryd.func12 (by kernel_rfl) rfl #[.slice A0 l0.length c0] rfl (by (try simp only [List.map_toArray, List.map_cons, List.map_nil]); first | done | rfl | (simp only [List.length_drop, List.length_take]; rfl)) ?_; (with_reducible refine (laws_big.calls _ _ l0 true _ ?side1 ?side2 A2.out).mono ?_); (case side1 => repeat (first | exact HR0.out | (with_reducible refine Kd.C_alloc ?_ _) | (with_reducible refine Kd.C_drewN ?_ _) | (with_reducible refine Kd.C_drew ?_))); (case side2 => exact HC0.out); rintro e w' ⟨rfl, ⟨nd, rfl⟩⟩; refine ⟨_, rfl, ?_⟩))
    go_ret
    exact ⟨by first | rfl | (simp [errW_none, errW_some] <;> rfl) | (simp [*, errW_none, errW_some] <;> rfl), by repeat (first | (with_reducible first | exact HB.out | apply below_alloc | apply pw_below_drewN | apply below_drew1) | exact HB.out)⟩
  · replace c3 := Bool.eq_false_iff.mpr c3
    subst c3
    have H1 : ((spec_DrawJob.f k l0).bind fun bt230 => ((impl_FormatJob.f bt230.1 bt230.2.1 bt230.2.2.1 bt230.2.2.2.1 bt230.2.2.2.2.1 bt230.2.2.2.2.2).bind fun bt237 => (if 1 + bt237.1.size ≤ 9223372036854775807 then (if ((⟨#[32]⟩ : ByteArray) ++ bt237.1).size + 1 ≤ 9223372036854775807 then ((impl_ParseJob.f k (((⟨#[32]⟩ : ByteArray) ++ bt237.1) ++ (⟨#[32]⟩ : ByteArray))).bind fun bt239 => ((impl_JobSheets.f k bt230.1 bt230.2.1 bt230.2.2.1 bt230.2.2.2.1 bt230.2.2.2.2.1 bt230.2.2.2.2.2).bind fun t247 => (if t247 > 1280 then (some false) else (laws_FnJobs.l0 k bt237.2 bt239.2.2.2.2.2.2 t247 0 0 bt230.1 bt230.2.1 bt230.2.2.1 bt230.2.2.2.1 bt230.2.2.2.2.1 bt230.2.2.2.2.2 bt239.1 bt239.2.1 bt239.2.2.1 bt239.2.2.2.1 bt239.2.2.2.2.1 bt239.2.2.2.2.2.1)))) else (none)) else (none)))) = some r := by rw [if_neg (show ¬ (false = true) by decide)] at H; exact H
    clear H
    have H := H1
    clear H1
    replace H := Option.bind_eq_some_iff.mp H
    obtain ⟨⟨t230, t231, t232, t233, t234, t235⟩, A40, H⟩ := H
    replace H : ((impl_FormatJob.f t230 t231 t232 t233 t234 t235).bind fun bt237 => (if 1 + bt237.1.size ≤ 9223372036854775807 then (if ((⟨#[32]⟩ : ByteArray) ++ bt237.1).size + 1 ≤ 9223372036854775807 then ((impl_ParseJob.f k (((⟨#[32]⟩ : ByteArray) ++ bt237.1) ++ (⟨#[32]⟩ : ByteArray))).bind fun bt239 => ((impl_JobSheets.f k t230 t231 t232 t233 t234 t235).bind fun t247 => (if t247 > 1280 then (some false) else (laws_FnJobs.l0 k bt237.2 bt239.2.2.2.2.2.2 t247 0 0 t230 t231 t232 t233 t234 t235 bt239.1 bt239.2.1 bt239.2.2.1 bt239.2.2.2.1 bt239.2.2.2.2.1 bt239.2.2.2.2.2.1)))) else (none)) else (none))) = some r := H
    have A4 := Aside0.mk A40
    clear A40
    replace H := Option.bind_eq_some_iff.mp H
    obtain ⟨⟨t237, t238⟩, A50, H⟩ := H
    replace H : (if 1 + t237.size ≤ 9223372036854775807 then (if ((⟨#[32]⟩ : ByteArray) ++ t237).size + 1 ≤ 9223372036854775807 then ((impl_ParseJob.f k (((⟨#[32]⟩ : ByteArray) ++ t237) ++ (⟨#[32]⟩ : ByteArray))).bind fun bt239 => ((impl_JobSheets.f k t230 t231 t232 t233 t234 t235).bind fun t247 => (if t247 > 1280 then (some false) else (laws_FnJobs.l0 k t238 bt239.2.2.2.2.2.2 t247 0 0 t230 t231 t232 t233 t234 t235 bt239.1 bt239.2.1 bt239.2.2.1 bt239.2.2.2.1 bt239.2.2.2.2.1 bt239.2.2.2.2.2.1)))) else (none)) else (none)) = some r := H
    have A5 := Aside0.mk A50
    clear A50
    by_cases c6 : 1 + t237.size ≤ 9223372036854775807
    · rw [if_pos c6] at H
      have c6b0 := eq_true c6
      have c6b1 : decide (1 + t237.size ≤ 9223372036854775807) = true := decide_eq_true c6
      try have c6b2 : (9223372036854775807 < 1 + t237.size) = False := eq_false (Nat.not_lt.2 c6)
      by_cases c7 : ((⟨#[32]⟩ : ByteArray) ++ t237).size + 1 ≤ 9223372036854775807
      · rw [if_pos c7] at H
        have c7b0 := eq_true c7
        have c7b1 : decide (((⟨#[32]⟩ : ByteArray) ++ t237).size + 1 ≤ 9223372036854775807) = true := decide_eq_true c7
        try have c7b2 : (9223372036854775807 < ((⟨#[32]⟩ : ByteArray) ++ t237).size + 1) = False := eq_false (Nat.not_lt.2 c7)
        try have c7b3 : (9223372036854775807 < 1 + t237.size + 1) = False := eq_false (Nat.not_lt.2 (by have q_ := c7; simp only [ByteArray.size_append] at q_; exact q_))
        replace H := Option.bind_eq_some_iff.mp H
        obtain ⟨⟨t239, t240, t241, t242, t243, t244, t245⟩, A80, H⟩ := H
        replace H : ((impl_JobSheets.f k t230 t231 t232 t233 t234 t235).bind fun t247 => (if t247 > 1280 then (some false) else (laws_FnJobs.l0 k t238 t245 t247 0 0 t230 t231 t232 t233 t234 t235 t239 t240 t241 t242 t243 t244))) = some r := H
        have A8 := Aside0.mk A80
        clear A80
        replace H := Option.bind_eq_some_iff.mp H
        obtain ⟨t247, A90, H⟩ := H
        replace H : (if t247 > 1280 then (some false) else (laws_FnJobs.l0 k t238 t245 t247 0 0 t230 t231 t232 t233 t234 t235 t239 t240 t241 t242 t243 t244)) = some r := H
        have A9 := Aside0.mk A90
        clear A90
        by_cases c10 : t247 > 1280
        · rw [if_pos c10] at H
          have c10b0 : decide (1280 < t247) = true := decide_eq_true c10
          clear c10
          obtain rfl := Option.some.inj H
          go_enter Tryd.func5, Tryd.ntmps5
          go_wp2_with (first | ((with_reducible refine gate_callee (f := 12) rfl ?_); refine goesL_ (some 16) rfl rfl Tryd.func12 (by kernel_rfl) rfl #[.slice A0 l0.length c0] rfl (by (try simp only [List.map_toArray, List.map_cons, List.map_nil]); first | done | rfl | (simp only [List.length_drop, List.length_take]; rfl)) ?_; (with_reducible refine (laws_big.calls _ _ l0 false _ ?side1 ?side2 A2.out).mono ?_); (case side1 => repeat (first | exact HR0.out | (with_reducible refine Kd.C_alloc ?_ _) | (with_reducible refine Kd.C_drewN ?_ _) | (with_reducible refine Kd.C_drew ?_))); (case side2 => exact HC0.out); rintro e w' ⟨rfl, ⟨nd, rfl⟩⟩; refine ⟨_, rfl, ?_⟩) | ((with_reducible refine gate_callee (f := 13) rfl ?_); refine goesL_ (some 18) rfl rfl Tryd.func13 (by kernel_rfl) rfl #[.slice A0 l0.length c0] rfl (by (try simp only [List.map_toArray, List.map_cons, List.map_nil]); first | done | rfl | (simp only [List.length_drop, List.length_take]; rfl)) ?_; (with_reducible refine (spec_DrawJob.calls k _ _ l0 t230 t231 t232 t233 t234 t235 _ ?side1 ?side2 A4.out).mono ?_); (case side1 => repeat (first | exact HR0.out | (with_reducible refine Kd.C_alloc ?_ _) | (with_reducible refine Kd.C_drewN ?_ _) | (with_reducible refine Kd.C_drew ?_))); (case side2 => exact HC0.out); rintro e w11 ⟨rfl, hb⟩; refine ⟨_, rfl, ?_⟩; have n0_ := Aside0.mk (below_step (by repeat (first | (with_reducible first | exact HB.out | apply below_alloc | apply pw_below_drewN | apply below_drew1) | exact HB.out)) hb); clear HB; have HB := n0_; clear n0_; (try clear hb); (try clear hb2); (try clear hk); (try clear hi)) | ((with_reducible refine gate_dst (N := 3) rfl ?_); refine box_event ?hg (N := 3) ?hd (cs := #[.int .i64 0, .int .i64 0, .int .i64 0, .bool false, .int .i64 0, .bool false]) (t := 26) ?hr ?_; (case hd => rfl); (case hg => rfl); (case hr => first | (go_simp; done) | (go_simp; rfl)); intro gb236 hg w12 hbox hb; have n0_ := Aside0.mk (below_step (by repeat (first | (with_reducible first | exact HB.out | apply below_alloc | apply pw_below_drewN | apply below_drew1) | exact HB.out)) hb); have n1_ := Aside0.mk (hbox); have n2_ := Aside0.mk ((by rw [hg]; exact (below_size (by repeat (first | (with_reducible first | exact HB.out | apply below_alloc | apply pw_below_drewN | apply below_drew1) | exact HB.out))) : w.heap.size ≤ gb236)); have n3_ := Aside0.mk ((by rw [hg]; exact (below_size (by repeat (first | (with_reducible first | exact HB.out | apply below_alloc | apply pw_below_drewN | apply below_drew1) | exact HB.out))) : w.heap.size ≤ gb236)); clear HB; have HB := n0_; have BK236 := n1_; have GW236 := n2_; have GE236 := n3_; clear n0_ n1_ n2_ n3_; clear hb hbox hg; have hcz13_0 : w12.cell? ⟨gb236, 0, none⟩ = some (.int .i64 0) := (blk_cell BK236.out 0).trans rfl; have hcz13_1 : w12.cell? ⟨gb236, 1, none⟩ = some (.int .i64 0) := (blk_cell BK236.out 1).trans rfl; have hcz13_2 : w12.cell? ⟨gb236, 2, none⟩ = some (.int .i64 0) := (blk_cell BK236.out 2).trans rfl; have hcz13_3 : w12.cell? ⟨gb236, 3, none⟩ = some (.bool false) := (blk_cell BK236.out 3).trans rfl; have hcz13_4 : w12.cell? ⟨gb236, 4, none⟩ = some (.int .i64 0) := (blk_cell BK236.out 4).trans rfl; have hcz13_5 : w12.cell? ⟨gb236, 5, none⟩ = some (.bool false) := (blk_cell BK236.out 5).trans rfl; have hfz13_0 := blk_frozen BK236.out 0; have hfz13_1 := blk_frozen BK236.out 1; have hfz13_2 := blk_frozen BK236.out 2; have hfz13_3 := blk_frozen BK236.out 3; have hfz13_4 := blk_frozen BK236.out 4; have hfz13_5 := blk_frozen BK236.out 5) | ((with_reducible refine gate_callee (f := 8) rfl ?_); refine goesL_ (some 21) rfl rfl Tryd.func8 (by kernel_rfl) rfl #[.agg #[.int .i64 t230, .int .i64 t231, .int .i64 t232, .bool t233, .int .i64 t234, .bool t235]] rfl (by (try simp only [List.map_toArray, List.map_cons, List.map_nil]); first | done | rfl | (simp only [List.length_drop, List.length_take]; rfl)) ?_; (with_reducible refine (impl_FormatJob.calls t230 t231 t232 t233 t234 t235 t237 t238 _ A5.out ?hT).mono ?_); (case hT => exact HT.out.below (by repeat (first | (with_reducible first | exact HB.out | apply below_alloc | apply pw_below_drewN | apply below_drew1 | refine below_set ?_ GE236.out) | exact HB.out))); rintro e w14 ⟨rfl, hb⟩; refine ⟨_, rfl, ?_⟩; have n0_ := Aside0.mk (blk_below (g := gb236) (o := .cells #[.int .i64 t230, .int .i64 t231, .int .i64 t232, .bool t233, .int .i64 t234, .bool t235] 26 (0, 0)) (by (with_reducible repeat (first | refine blk_drewN ?_ _ | refine blk_drew ?_ | refine blk_alloc ?_ _)); refine blk_put (cs := #[.int .i64 t230, .int .i64 t231, .int .i64 t232, .bool t233, .int .i64 t234, .bool false]) ?_ 5 _ rfl; (with_reducible repeat (first | refine blk_drewN ?_ _ | refine blk_drew ?_ | refine blk_alloc ?_ _)); refine blk_put (cs := #[.int .i64 t230, .int .i64 t231, .int .i64 t232, .bool t233, .int .i64 0, .bool false]) ?_ 4 _ rfl; (with_reducible repeat (first | refine blk_drewN ?_ _ | refine blk_drew ?_ | refine blk_alloc ?_ _)); refine blk_put (cs := #[.int .i64 t230, .int .i64 t231, .int .i64 t232, .bool false, .int .i64 0, .bool false]) ?_ 3 _ rfl; (with_reducible repeat (first | refine blk_drewN ?_ _ | refine blk_drew ?_ | refine blk_alloc ?_ _)); refine blk_put (cs := #[.int .i64 t230, .int .i64 t231, .int .i64 0, .bool false, .int .i64 0, .bool false]) ?_ 2 _ rfl; (with_reducible repeat (first | refine blk_drewN ?_ _ | refine blk_drew ?_ | refine blk_alloc ?_ _)); refine blk_put (cs := #[.int .i64 t230, .int .i64 0, .int .i64 0, .bool false, .int .i64 0, .bool false]) ?_ 1 _ rfl; (with_reducible repeat (first | refine blk_drewN ?_ _ | refine blk_drew ?_ | refine blk_alloc ?_ _)); refine blk_put (cs := #[.int .i64 0, .int .i64 0, .int .i64 0, .bool false, .int .i64 0, .bool false]) ?_ 0 _ rfl; (with_reducible repeat (first | refine blk_drewN ?_ _ | refine blk_drew ?_ | refine blk_alloc ?_ _)); exact BK236.out) hb); have n1_ := Aside0.mk (below_step (by repeat (first | (with_reducible first | exact HB.out | apply below_alloc | apply pw_below_drewN | apply below_drew1 | refine below_set ?_ GE236.out) | exact HB.out)) hb); clear BK236; clear HB; have BK236 := n0_; have HB := n1_; clear n0_ n1_; (try clear hb); (try clear hb2); (try clear hk); (try clear hi)) | ((with_reducible refine gate_callee (f := 10) rfl ?_); refine goesL_ (some 28) rfl rfl Tryd.func10 (by kernel_rfl) rfl #[.string (((⟨#[32]⟩ : ByteArray) ++ t237) ++ (⟨#[32]⟩ : ByteArray))] rfl (by (try simp only [List.map_toArray, List.map_cons, List.map_nil]); first | done | rfl | (simp only [List.length_drop, List.length_take]; rfl)) ?_; (with_reducible refine (impl_ParseJob.calls k (((⟨#[32]⟩ : ByteArray) ++ t237) ++ (⟨#[32]⟩ : ByteArray)) t239 t240 t241 t242 t243 t244 t245 _ A8.out ?hT).mono ?_); (case hT => exact HT.out.below (by repeat (first | (with_reducible first | exact HB.out | apply below_alloc | apply pw_below_drewN | apply below_drew1 | refine below_set ?_ GE236.out) | exact HB.out))); rintro e w15 ⟨rfl, hb⟩; refine ⟨_, rfl, ?_⟩; have n0_ := Aside0.mk (blk_below (g := gb236) (o := .cells #[.int .i64 t230, .int .i64 t231, .int .i64 t232, .bool t233, .int .i64 t234, .bool t235] 26 (0, 0)) (by (with_reducible repeat (first | refine blk_drewN ?_ _ | refine blk_drew ?_ | refine blk_alloc ?_ _)); exact BK236.out) hb); have n1_ := Aside0.mk (below_step (by repeat (first | (with_reducible first | exact HB.out | apply below_alloc | apply pw_below_drewN | apply below_drew1 | refine below_set ?_ GE236.out) | exact HB.out)) hb); clear BK236; clear HB; have BK236 := n0_; have HB := n1_; clear n0_ n1_; (try clear hb); (try clear hb2); (try clear hk); (try clear hi)) | ((with_reducible refine gate_dst (N := 6) rfl ?_); refine box_event ?hg (N := 6) ?hd (cs := #[.int .i64 0, .int .i64 0, .int .i64 0, .bool false, .int .i64 0, .bool false]) (t := 26) ?hr ?_; (case hd => rfl); (case hg => rfl); (case hr => first | (go_simp; done) | (go_simp; rfl)); intro gb246 hg w16 hbox hb; have n0_ := Aside0.mk (blk_below (g := gb236) (o := .cells #[.int .i64 t230, .int .i64 t231, .int .i64 t232, .bool t233, .int .i64 t234, .bool t235] 26 (0, 0)) (by (with_reducible repeat (first | refine blk_drewN ?_ _ | refine blk_drew ?_ | refine blk_alloc ?_ _)); exact BK236.out) hb); have n1_ := Aside0.mk (below_step (by repeat (first | (with_reducible first | exact HB.out | apply below_alloc | apply pw_below_drewN | apply below_drew1 | refine below_set ?_ GE236.out) | exact HB.out)) hb); have n2_ := Aside0.mk (hbox); have n3_ := Aside0.mk ((by rw [hg]; exact (below_size (by repeat (first | (with_reducible first | exact HB.out | apply below_alloc | apply pw_below_drewN | apply below_drew1 | refine below_set ?_ GE236.out) | exact HB.out))) : w.heap.size ≤ gb246)); have n4_ := Aside0.mk ((by rw [hg]; exact (below_size (by repeat (first | (with_reducible first | exact HB.out | apply below_alloc | apply pw_below_drewN | apply below_drew1 | refine below_set ?_ GE236.out) | exact HB.out))) : w.heap.size ≤ gb246)); have n5_ := Aside0.mk ((by rw [hg]; exact Nat.ne_of_lt (blk_lt (g := gb236) (o := .cells #[.int .i64 t230, .int .i64 t231, .int .i64 t232, .bool t233, .int .i64 t234, .bool t235] 26 (0, 0)) (by (with_reducible repeat (first | refine blk_drewN ?_ _ | refine blk_drew ?_ | refine blk_alloc ?_ _)); exact BK236.out)) : gb236 ≠ gb246)); have n6_ := Aside0.mk ((by rw [hg]; exact Nat.ne_of_gt (blk_lt (g := gb236) (o := .cells #[.int .i64 t230, .int .i64 t231, .int .i64 t232, .bool t233, .int .i64 t234, .bool t235] 26 (0, 0)) (by (with_reducible repeat (first | refine blk_drewN ?_ _ | refine blk_drew ?_ | refine blk_alloc ?_ _)); exact BK236.out)) : gb246 ≠ gb236)); clear BK236; clear HB; have BK236 := n0_; have HB := n1_; have BK246 := n2_; have GW246 := n3_; have GE246 := n4_; have NB236_246 := n5_; have NB246_236 := n6_; clear n0_ n1_ n2_ n3_ n4_ n5_ n6_; clear hb hbox hg; have hnb17 := NB246_236.out; have hnc17 := NB236_246.out; have hcz18_0 : w16.cell? ⟨gb246, 0, none⟩ = some (.int .i64 0) := (blk_cell BK246.out 0).trans rfl; have hcz18_1 : w16.cell? ⟨gb246, 1, none⟩ = some (.int .i64 0) := (blk_cell BK246.out 1).trans rfl; have hcz18_2 : w16.cell? ⟨gb246, 2, none⟩ = some (.int .i64 0) := (blk_cell BK246.out 2).trans rfl; have hcz18_3 : w16.cell? ⟨gb246, 3, none⟩ = some (.bool false) := (blk_cell BK246.out 3).trans rfl; have hcz18_4 : w16.cell? ⟨gb246, 4, none⟩ = some (.int .i64 0) := (blk_cell BK246.out 4).trans rfl; have hcz18_5 : w16.cell? ⟨gb246, 5, none⟩ = some (.bool false) := (blk_cell BK246.out 5).trans rfl; have hfz18_0 := blk_frozen BK246.out 0; have hfz18_1 := blk_frozen BK246.out 1; have hfz18_2 := blk_frozen BK246.out 2; have hfz18_3 := blk_frozen BK246.out 3; have hfz18_4 := blk_frozen BK246.out 4; have hfz18_5 := blk_frozen BK246.out 5; have hcz19_0 : w16.cell? ⟨gb236, 0, none⟩ = some (.int .i64 t230) := (blk_cell BK236.out 0).trans rfl; have hcz19_1 : w16.cell? ⟨gb236, 1, none⟩ = some (.int .i64 t231) := (blk_cell BK236.out 1).trans rfl; have hcz19_2 : w16.cell? ⟨gb236, 2, none⟩ = some (.int .i64 t232) := (blk_cell BK236.out 2).trans rfl; have hcz19_3 : w16.cell? ⟨gb236, 3, none⟩ = some (.bool t233) := (blk_cell BK236.out 3).trans rfl; have hcz19_4 : w16.cell? ⟨gb236, 4, none⟩ = some (.int .i64 t234) := (blk_cell BK236.out 4).trans rfl; have hcz19_5 : w16.cell? ⟨gb236, 5, none⟩ = some (.bool t235) := (blk_cell BK236.out 5).trans rfl; have hfz19_0 := blk_frozen BK236.out 0; have hfz19_1 := blk_frozen BK236.out 1; have hfz19_2 := blk_frozen BK236.out 2; have hfz19_3 := blk_frozen BK236.out 3; have hfz19_4 := blk_frozen BK236.out 4; have hfz19_5 := blk_frozen BK236.out 5) | ((with_reducible refine gate_callee (f := 14) rfl ?_); refine goesL_ (some 32) rfl rfl Tryd.func14 (by kernel_rfl) rfl #[.agg #[.int .i64 t230, .int .i64 t231, .int .i64 t232, .bool t233, .int .i64 t234, .bool t235]] rfl (by (try simp only [List.map_toArray, List.map_cons, List.map_nil]); first | done | rfl | (simp only [List.length_drop, List.length_take]; rfl)) ?_; (with_reducible refine (impl_JobSheets.calls k t230 t231 t232 t233 t234 t235 t247 _ A9.out).mono ?_); rintro e w20 ⟨rfl, hb⟩; refine ⟨_, rfl, ?_⟩; have n0_ := Aside0.mk (blk_below (g := gb236) (o := .cells #[.int .i64 t230, .int .i64 t231, .int .i64 t232, .bool t233, .int .i64 t234, .bool t235] 26 (0, 0)) (by (with_reducible repeat (first | refine blk_drewN ?_ _ | refine blk_drew ?_ | refine blk_alloc ?_ _)); refine blk_far ?_ NB236_246.out _; (with_reducible repeat (first | refine blk_drewN ?_ _ | refine blk_drew ?_ | refine blk_alloc ?_ _)); refine blk_far ?_ NB236_246.out _; (with_reducible repeat (first | refine blk_drewN ?_ _ | refine blk_drew ?_ | refine blk_alloc ?_ _)); refine blk_far ?_ NB236_246.out _; (with_reducible repeat (first | refine blk_drewN ?_ _ | refine blk_drew ?_ | refine blk_alloc ?_ _)); refine blk_far ?_ NB236_246.out _; (with_reducible repeat (first | refine blk_drewN ?_ _ | refine blk_drew ?_ | refine blk_alloc ?_ _)); refine blk_far ?_ NB236_246.out _; (with_reducible repeat (first | refine blk_drewN ?_ _ | refine blk_drew ?_ | refine blk_alloc ?_ _)); refine blk_far ?_ NB236_246.out _; (with_reducible repeat (first | refine blk_drewN ?_ _ | refine blk_drew ?_ | refine blk_alloc ?_ _)); exact BK236.out) hb); have n1_ := Aside0.mk (blk_below (g := gb246) (o := .cells #[.int .i64 t239, .int .i64 t240, .int .i64 t241, .bool t242, .int .i64 t243, .bool t244] 26 (0, 0)) (by (with_reducible repeat (first | refine blk_drewN ?_ _ | refine blk_drew ?_ | refine blk_alloc ?_ _)); refine blk_put (cs := #[.int .i64 t239, .int .i64 t240, .int .i64 t241, .bool t242, .int .i64 t243, .bool false]) ?_ 5 _ rfl; (with_reducible repeat (first | refine blk_drewN ?_ _ | refine blk_drew ?_ | refine blk_alloc ?_ _)); refine blk_put (cs := #[.int .i64 t239, .int .i64 t240, .int .i64 t241, .bool t242, .int .i64 0, .bool false]) ?_ 4 _ rfl; (with_reducible repeat (first | refine blk_drewN ?_ _ | refine blk_drew ?_ | refine blk_alloc ?_ _)); refine blk_put (cs := #[.int .i64 t239, .int .i64 t240, .int .i64 t241, .bool false, .int .i64 0, .bool false]) ?_ 3 _ rfl; (with_reducible repeat (first | refine blk_drewN ?_ _ | refine blk_drew ?_ | refine blk_alloc ?_ _)); refine blk_put (cs := #[.int .i64 t239, .int .i64 t240, .int .i64 0, .bool false, .int .i64 0, .bool false]) ?_ 2 _ rfl; (with_reducible repeat (first | refine blk_drewN ?_ _ | refine blk_drew ?_ | refine blk_alloc ?_ _)); refine blk_put (cs := #[.int .i64 t239, .int .i64 0, .int .i64 0, .bool false, .int .i64 0, .bool false]) ?_ 1 _ rfl; (with_reducible repeat (first | refine blk_drewN ?_ _ | refine blk_drew ?_ | refine blk_alloc ?_ _)); refine blk_put (cs := #[.int .i64 0, .int .i64 0, .int .i64 0, .bool false, .int .i64 0, .bool false]) ?_ 0 _ rfl; (with_reducible repeat (first | refine blk_drewN ?_ _ | refine blk_drew ?_ | refine blk_alloc ?_ _)); exact BK246.out) hb); have n2_ := Aside0.mk (below_step (by repeat (first | (with_reducible first | exact HB.out | apply below_alloc | apply pw_below_drewN | apply below_drew1 | refine below_set ?_ GE236.out | refine below_set ?_ GE246.out) | exact HB.out)) hb); clear BK236; clear BK246; clear HB; have BK236 := n0_; have BK246 := n1_; have HB := n2_; clear n0_ n1_ n2_; (try clear hb); (try clear hb2); (try clear hk); (try clear hi)))
          go_ret
          exact ⟨by first | rfl | (simp [errW_none, errW_some] <;> rfl) | (simp [*, errW_none, errW_some] <;> rfl), by repeat (first | (with_reducible first | exact HB.out | apply below_alloc | apply pw_below_drewN | apply below_drew1 | refine below_set ?_ GE236.out | refine below_set ?_ GE246.out) | exact HB.out)⟩
        · rw [if_neg c10] at H
          have c10b0 : decide (1280 < t247) = false := decide_eq_false c10
          clear c10
          have H' := Aside0.mk H
          clear H
          go_enter Tryd.func5, Tryd.ntmps5
          go_wp2_with (first | ((with_reducible refine gate_callee (f := 12) rfl ?_); refine goesL_ (some 16) rfl rfl Tryd.func12 (by kernel_rfl) rfl #[.slice A0 l0.length c0] rfl (by (try simp only [List.map_toArray, List.map_cons, List.map_nil]); first | done | rfl | (simp only [List.length_drop, List.length_take]; rfl)) ?_; (with_reducible refine (laws_big.calls _ _ l0 false _ ?side1 ?side2 A2.out).mono ?_); (case side1 => repeat (first | exact HR0.out | (with_reducible refine Kd.C_alloc ?_ _) | (with_reducible refine Kd.C_drewN ?_ _) | (with_reducible refine Kd.C_drew ?_))); (case side2 => exact HC0.out); rintro e w' ⟨rfl, ⟨nd, rfl⟩⟩; refine ⟨_, rfl, ?_⟩) | ((with_reducible refine gate_callee (f := 13) rfl ?_); refine goesL_ (some 18) rfl rfl Tryd.func13 (by kernel_rfl) rfl #[.slice A0 l0.length c0] rfl (by (try simp only [List.map_toArray, List.map_cons, List.map_nil]); first | done | rfl | (simp only [List.length_drop, List.length_take]; rfl)) ?_; (with_reducible refine (spec_DrawJob.calls k _ _ l0 t230 t231 t232 t233 t234 t235 _ ?side1 ?side2 A4.out).mono ?_); (case side1 => repeat (first | exact HR0.out | (with_reducible refine Kd.C_alloc ?_ _) | (with_reducible refine Kd.C_drewN ?_ _) | (with_reducible refine Kd.C_drew ?_))); (case side2 => exact HC0.out); rintro e w21 ⟨rfl, hb⟩; refine ⟨_, rfl, ?_⟩; have n0_ := Aside0.mk (below_step (by repeat (first | (with_reducible first | exact HB.out | apply below_alloc | apply pw_below_drewN | apply below_drew1) | exact HB.out)) hb); clear HB; have HB := n0_; clear n0_; (try clear hb); (try clear hb2); (try clear hk); (try clear hi)) | ((with_reducible refine gate_dst (N := 3) rfl ?_); refine box_event ?hg (N := 3) ?hd (cs := #[.int .i64 0, .int .i64 0, .int .i64 0, .bool false, .int .i64 0, .bool false]) (t := 26) ?hr ?_; (case hd => rfl); (case hg => rfl); (case hr => first | (go_simp; done) | (go_simp; rfl)); intro gb236 hg w22 hbox hb; have n0_ := Aside0.mk (below_step (by repeat (first | (with_reducible first | exact HB.out | apply below_alloc | apply pw_below_drewN | apply below_drew1) | exact HB.out)) hb); have n1_ := Aside0.mk (hbox); have n2_ := Aside0.mk ((by rw [hg]; exact (below_size (by repeat (first | (with_reducible first | exact HB.out | apply below_alloc | apply pw_below_drewN | apply below_drew1) | exact HB.out))) : w.heap.size ≤ gb236)); have n3_ := Aside0.mk ((by rw [hg]; exact (below_size (by repeat (first | (with_reducible first | exact HB.out | apply below_alloc | apply pw_below_drewN | apply below_drew1) | exact HB.out))) : w.heap.size ≤ gb236)); clear HB; have HB := n0_; have BK236 := n1_; have GW236 := n2_; have GE236 := n3_; clear n0_ n1_ n2_ n3_; clear hb hbox hg; have hcz23_0 : w22.cell? ⟨gb236, 0, none⟩ = some (.int .i64 0) := (blk_cell BK236.out 0).trans rfl; have hcz23_1 : w22.cell? ⟨gb236, 1, none⟩ = some (.int .i64 0) := (blk_cell BK236.out 1).trans rfl; have hcz23_2 : w22.cell? ⟨gb236, 2, none⟩ = some (.int .i64 0) := (blk_cell BK236.out 2).trans rfl; have hcz23_3 : w22.cell? ⟨gb236, 3, none⟩ = some (.bool false) := (blk_cell BK236.out 3).trans rfl; have hcz23_4 : w22.cell? ⟨gb236, 4, none⟩ = some (.int .i64 0) := (blk_cell BK236.out 4).trans rfl; have hcz23_5 : w22.cell? ⟨gb236, 5, none⟩ = some (.bool false) := (blk_cell BK236.out 5).trans rfl; have hfz23_0 := blk_frozen BK236.out 0; have hfz23_1 := blk_frozen BK236.out 1; have hfz23_2 := blk_frozen BK236.out 2; have hfz23_3 := blk_frozen BK236.out 3; have hfz23_4 := blk_frozen BK236.out 4; have hfz23_5 := blk_frozen BK236.out 5) | ((with_reducible refine gate_callee (f := 8) rfl ?_); refine goesL_ (some 21) rfl rfl Tryd.func8 (by kernel_rfl) rfl #[.agg #[.int .i64 t230, .int .i64 t231, .int .i64 t232, .bool t233, .int .i64 t234, .bool t235]] rfl (by (try simp only [List.map_toArray, List.map_cons, List.map_nil]); first | done | rfl | (simp only [List.length_drop, List.length_take]; rfl)) ?_; (with_reducible refine (impl_FormatJob.calls t230 t231 t232 t233 t234 t235 t237 t238 _ A5.out ?hT).mono ?_); (case hT => exact HT.out.below (by repeat (first | (with_reducible first | exact HB.out | apply below_alloc | apply pw_below_drewN | apply below_drew1 | refine below_set ?_ GE236.out) | exact HB.out))); rintro e w24 ⟨rfl, hb⟩; refine ⟨_, rfl, ?_⟩; have n0_ := Aside0.mk (blk_below (g := gb236) (o := .cells #[.int .i64 t230, .int .i64 t231, .int .i64 t232, .bool t233, .int .i64 t234, .bool t235] 26 (0, 0)) (by (with_reducible repeat (first | refine blk_drewN ?_ _ | refine blk_drew ?_ | refine blk_alloc ?_ _)); refine blk_put (cs := #[.int .i64 t230, .int .i64 t231, .int .i64 t232, .bool t233, .int .i64 t234, .bool false]) ?_ 5 _ rfl; (with_reducible repeat (first | refine blk_drewN ?_ _ | refine blk_drew ?_ | refine blk_alloc ?_ _)); refine blk_put (cs := #[.int .i64 t230, .int .i64 t231, .int .i64 t232, .bool t233, .int .i64 0, .bool false]) ?_ 4 _ rfl; (with_reducible repeat (first | refine blk_drewN ?_ _ | refine blk_drew ?_ | refine blk_alloc ?_ _)); refine blk_put (cs := #[.int .i64 t230, .int .i64 t231, .int .i64 t232, .bool false, .int .i64 0, .bool false]) ?_ 3 _ rfl; (with_reducible repeat (first | refine blk_drewN ?_ _ | refine blk_drew ?_ | refine blk_alloc ?_ _)); refine blk_put (cs := #[.int .i64 t230, .int .i64 t231, .int .i64 0, .bool false, .int .i64 0, .bool false]) ?_ 2 _ rfl; (with_reducible repeat (first | refine blk_drewN ?_ _ | refine blk_drew ?_ | refine blk_alloc ?_ _)); refine blk_put (cs := #[.int .i64 t230, .int .i64 0, .int .i64 0, .bool false, .int .i64 0, .bool false]) ?_ 1 _ rfl; (with_reducible repeat (first | refine blk_drewN ?_ _ | refine blk_drew ?_ | refine blk_alloc ?_ _)); refine blk_put (cs := #[.int .i64 0, .int .i64 0, .int .i64 0, .bool false, .int .i64 0, .bool false]) ?_ 0 _ rfl; (with_reducible repeat (first | refine blk_drewN ?_ _ | refine blk_drew ?_ | refine blk_alloc ?_ _)); exact BK236.out) hb); have n1_ := Aside0.mk (below_step (by repeat (first | (with_reducible first | exact HB.out | apply below_alloc | apply pw_below_drewN | apply below_drew1 | refine below_set ?_ GE236.out) | exact HB.out)) hb); clear BK236; clear HB; have BK236 := n0_; have HB := n1_; clear n0_ n1_; (try clear hb); (try clear hb2); (try clear hk); (try clear hi)) | ((with_reducible refine gate_callee (f := 10) rfl ?_); refine goesL_ (some 28) rfl rfl Tryd.func10 (by kernel_rfl) rfl #[.string (((⟨#[32]⟩ : ByteArray) ++ t237) ++ (⟨#[32]⟩ : ByteArray))] rfl (by (try simp only [List.map_toArray, List.map_cons, List.map_nil]); first | done | rfl | (simp only [List.length_drop, List.length_take]; rfl)) ?_; (with_reducible refine (impl_ParseJob.calls k (((⟨#[32]⟩ : ByteArray) ++ t237) ++ (⟨#[32]⟩ : ByteArray)) t239 t240 t241 t242 t243 t244 t245 _ A8.out ?hT).mono ?_); (case hT => exact HT.out.below (by repeat (first | (with_reducible first | exact HB.out | apply below_alloc | apply pw_below_drewN | apply below_drew1 | refine below_set ?_ GE236.out) | exact HB.out))); rintro e w25 ⟨rfl, hb⟩; refine ⟨_, rfl, ?_⟩; have n0_ := Aside0.mk (blk_below (g := gb236) (o := .cells #[.int .i64 t230, .int .i64 t231, .int .i64 t232, .bool t233, .int .i64 t234, .bool t235] 26 (0, 0)) (by (with_reducible repeat (first | refine blk_drewN ?_ _ | refine blk_drew ?_ | refine blk_alloc ?_ _)); exact BK236.out) hb); have n1_ := Aside0.mk (below_step (by repeat (first | (with_reducible first | exact HB.out | apply below_alloc | apply pw_below_drewN | apply below_drew1 | refine below_set ?_ GE236.out) | exact HB.out)) hb); clear BK236; clear HB; have BK236 := n0_; have HB := n1_; clear n0_ n1_; (try clear hb); (try clear hb2); (try clear hk); (try clear hi)) | ((with_reducible refine gate_dst (N := 6) rfl ?_); refine box_event ?hg (N := 6) ?hd (cs := #[.int .i64 0, .int .i64 0, .int .i64 0, .bool false, .int .i64 0, .bool false]) (t := 26) ?hr ?_; (case hd => rfl); (case hg => rfl); (case hr => first | (go_simp; done) | (go_simp; rfl)); intro gb246 hg w26 hbox hb; have n0_ := Aside0.mk (blk_below (g := gb236) (o := .cells #[.int .i64 t230, .int .i64 t231, .int .i64 t232, .bool t233, .int .i64 t234, .bool t235] 26 (0, 0)) (by (with_reducible repeat (first | refine blk_drewN ?_ _ | refine blk_drew ?_ | refine blk_alloc ?_ _)); exact BK236.out) hb); have n1_ := Aside0.mk (below_step (by repeat (first | (with_reducible first | exact HB.out | apply below_alloc | apply pw_below_drewN | apply below_drew1 | refine below_set ?_ GE236.out) | exact HB.out)) hb); have n2_ := Aside0.mk (hbox); have n3_ := Aside0.mk ((by rw [hg]; exact (below_size (by repeat (first | (with_reducible first | exact HB.out | apply below_alloc | apply pw_below_drewN | apply below_drew1 | refine below_set ?_ GE236.out) | exact HB.out))) : w.heap.size ≤ gb246)); have n4_ := Aside0.mk ((by rw [hg]; exact (below_size (by repeat (first | (with_reducible first | exact HB.out | apply below_alloc | apply pw_below_drewN | apply below_drew1 | refine below_set ?_ GE236.out) | exact HB.out))) : w.heap.size ≤ gb246)); have n5_ := Aside0.mk ((by rw [hg]; exact Nat.ne_of_lt (blk_lt (g := gb236) (o := .cells #[.int .i64 t230, .int .i64 t231, .int .i64 t232, .bool t233, .int .i64 t234, .bool t235] 26 (0, 0)) (by (with_reducible repeat (first | refine blk_drewN ?_ _ | refine blk_drew ?_ | refine blk_alloc ?_ _)); exact BK236.out)) : gb236 ≠ gb246)); have n6_ := Aside0.mk ((by rw [hg]; exact Nat.ne_of_gt (blk_lt (g := gb236) (o := .cells #[.int .i64 t230, .int .i64 t231, .int .i64 t232, .bool t233, .int .i64 t234, .bool t235] 26 (0, 0)) (by (with_reducible repeat (first | refine blk_drewN ?_ _ | refine blk_drew ?_ | refine blk_alloc ?_ _)); exact BK236.out)) : gb246 ≠ gb236)); clear BK236; clear HB; have BK236 := n0_; have HB := n1_; have BK246 := n2_; have GW246 := n3_; have GE246 := n4_; have NB236_246 := n5_; have NB246_236 := n6_; clear n0_ n1_ n2_ n3_ n4_ n5_ n6_; clear hb hbox hg; have hnb27 := NB246_236.out; have hnc27 := NB236_246.out; have hcz28_0 : w26.cell? ⟨gb246, 0, none⟩ = some (.int .i64 0) := (blk_cell BK246.out 0).trans rfl; have hcz28_1 : w26.cell? ⟨gb246, 1, none⟩ = some (.int .i64 0) := (blk_cell BK246.out 1).trans rfl; have hcz28_2 : w26.cell? ⟨gb246, 2, none⟩ = some (.int .i64 0) := (blk_cell BK246.out 2).trans rfl; have hcz28_3 : w26.cell? ⟨gb246, 3, none⟩ = some (.bool false) := (blk_cell BK246.out 3).trans rfl; have hcz28_4 : w26.cell? ⟨gb246, 4, none⟩ = some (.int .i64 0) := (blk_cell BK246.out 4).trans rfl; have hcz28_5 : w26.cell? ⟨gb246, 5, none⟩ = some (.bool false) := (blk_cell BK246.out 5).trans rfl; have hfz28_0 := blk_frozen BK246.out 0; have hfz28_1 := blk_frozen BK246.out 1; have hfz28_2 := blk_frozen BK246.out 2; have hfz28_3 := blk_frozen BK246.out 3; have hfz28_4 := blk_frozen BK246.out 4; have hfz28_5 := blk_frozen BK246.out 5; have hcz29_0 : w26.cell? ⟨gb236, 0, none⟩ = some (.int .i64 t230) := (blk_cell BK236.out 0).trans rfl; have hcz29_1 : w26.cell? ⟨gb236, 1, none⟩ = some (.int .i64 t231) := (blk_cell BK236.out 1).trans rfl; have hcz29_2 : w26.cell? ⟨gb236, 2, none⟩ = some (.int .i64 t232) := (blk_cell BK236.out 2).trans rfl; have hcz29_3 : w26.cell? ⟨gb236, 3, none⟩ = some (.bool t233) := (blk_cell BK236.out 3).trans rfl; have hcz29_4 : w26.cell? ⟨gb236, 4, none⟩ = some (.int .i64 t234) := (blk_cell BK236.out 4).trans rfl; have hcz29_5 : w26.cell? ⟨gb236, 5, none⟩ = some (.bool t235) := (blk_cell BK236.out 5).trans rfl; have hfz29_0 := blk_frozen BK236.out 0; have hfz29_1 := blk_frozen BK236.out 1; have hfz29_2 := blk_frozen BK236.out 2; have hfz29_3 := blk_frozen BK236.out 3; have hfz29_4 := blk_frozen BK236.out 4; have hfz29_5 := blk_frozen BK236.out 5) | ((with_reducible refine gate_callee (f := 14) rfl ?_); refine goesL_ (some 32) rfl rfl Tryd.func14 (by kernel_rfl) rfl #[.agg #[.int .i64 t230, .int .i64 t231, .int .i64 t232, .bool t233, .int .i64 t234, .bool t235]] rfl (by (try simp only [List.map_toArray, List.map_cons, List.map_nil]); first | done | rfl | (simp only [List.length_drop, List.length_take]; rfl)) ?_; (with_reducible refine (impl_JobSheets.calls k t230 t231 t232 t233 t234 t235 t247 _ A9.out).mono ?_); rintro e w30 ⟨rfl, hb⟩; refine ⟨_, rfl, ?_⟩; have n0_ := Aside0.mk (blk_below (g := gb236) (o := .cells #[.int .i64 t230, .int .i64 t231, .int .i64 t232, .bool t233, .int .i64 t234, .bool t235] 26 (0, 0)) (by (with_reducible repeat (first | refine blk_drewN ?_ _ | refine blk_drew ?_ | refine blk_alloc ?_ _)); refine blk_far ?_ NB236_246.out _; (with_reducible repeat (first | refine blk_drewN ?_ _ | refine blk_drew ?_ | refine blk_alloc ?_ _)); refine blk_far ?_ NB236_246.out _; (with_reducible repeat (first | refine blk_drewN ?_ _ | refine blk_drew ?_ | refine blk_alloc ?_ _)); refine blk_far ?_ NB236_246.out _; (with_reducible repeat (first | refine blk_drewN ?_ _ | refine blk_drew ?_ | refine blk_alloc ?_ _)); refine blk_far ?_ NB236_246.out _; (with_reducible repeat (first | refine blk_drewN ?_ _ | refine blk_drew ?_ | refine blk_alloc ?_ _)); refine blk_far ?_ NB236_246.out _; (with_reducible repeat (first | refine blk_drewN ?_ _ | refine blk_drew ?_ | refine blk_alloc ?_ _)); refine blk_far ?_ NB236_246.out _; (with_reducible repeat (first | refine blk_drewN ?_ _ | refine blk_drew ?_ | refine blk_alloc ?_ _)); exact BK236.out) hb); have n1_ := Aside0.mk (blk_below (g := gb246) (o := .cells #[.int .i64 t239, .int .i64 t240, .int .i64 t241, .bool t242, .int .i64 t243, .bool t244] 26 (0, 0)) (by (with_reducible repeat (first | refine blk_drewN ?_ _ | refine blk_drew ?_ | refine blk_alloc ?_ _)); refine blk_put (cs := #[.int .i64 t239, .int .i64 t240, .int .i64 t241, .bool t242, .int .i64 t243, .bool false]) ?_ 5 _ rfl; (with_reducible repeat (first | refine blk_drewN ?_ _ | refine blk_drew ?_ | refine blk_alloc ?_ _)); refine blk_put (cs := #[.int .i64 t239, .int .i64 t240, .int .i64 t241, .bool t242, .int .i64 0, .bool false]) ?_ 4 _ rfl; (with_reducible repeat (first | refine blk_drewN ?_ _ | refine blk_drew ?_ | refine blk_alloc ?_ _)); refine blk_put (cs := #[.int .i64 t239, .int .i64 t240, .int .i64 t241, .bool false, .int .i64 0, .bool false]) ?_ 3 _ rfl; (with_reducible repeat (first | refine blk_drewN ?_ _ | refine blk_drew ?_ | refine blk_alloc ?_ _)); refine blk_put (cs := #[.int .i64 t239, .int .i64 t240, .int .i64 0, .bool false, .int .i64 0, .bool false]) ?_ 2 _ rfl; (with_reducible repeat (first | refine blk_drewN ?_ _ | refine blk_drew ?_ | refine blk_alloc ?_ _)); refine blk_put (cs := #[.int .i64 t239, .int .i64 0, .int .i64 0, .bool false, .int .i64 0, .bool false]) ?_ 1 _ rfl; (with_reducible repeat (first | refine blk_drewN ?_ _ | refine blk_drew ?_ | refine blk_alloc ?_ _)); refine blk_put (cs := #[.int .i64 0, .int .i64 0, .int .i64 0, .bool false, .int .i64 0, .bool false]) ?_ 0 _ rfl; (with_reducible repeat (first | refine blk_drewN ?_ _ | refine blk_drew ?_ | refine blk_alloc ?_ _)); exact BK246.out) hb); have n2_ := Aside0.mk (below_step (by repeat (first | (with_reducible first | exact HB.out | apply below_alloc | apply pw_below_drewN | apply below_drew1 | refine below_set ?_ GE236.out | refine below_set ?_ GE246.out) | exact HB.out)) hb); clear BK236; clear BK246; clear HB; have BK236 := n0_; have BK246 := n1_; have HB := n2_; clear n0_ n1_ n2_; (try clear hb); (try clear hb2); (try clear hk); (try clear hi)))
          go_loopg [9, 10] k (fun kq v9 v10 w' => ∃ (x9_1 : Int) (x10_1 : Int), v9 = .int .i64 x9_1 ∧ v10 = .int .i64 x10_1 ∧ Aside0 (laws_FnJobs.l0 kq t238 t245 t247 x9_1 x10_1 t230 t231 t232 t233 t234 t235 t239 t240 t241 t242 t243 t244 = some r) ∧ Aside0 (kq ≤ k) ∧ Aside0 (w'.heap[gb236]? = some (.cells #[.int .i64 t230, .int .i64 t231, .int .i64 t232, .bool t233, .int .i64 t234, .bool t235] 26 (0, 0))) ∧ Aside0 (w'.heap[gb246]? = some (.cells #[.int .i64 t239, .int .i64 t240, .int .i64 t241, .bool t242, .int .i64 t243, .bool t244] 26 (0, 0))) ∧ Aside0 (Below w.heap.size w w'))
          case atStart => exact ⟨(0), (0), (by first | rfl | (simp; done) | (simp [*]; done)), (by first | rfl | (simp; done) | (simp [*]; done)), H', ⟨Nat.le_refl _⟩, ⟨by (with_reducible repeat (first | refine blk_drewN ?_ _ | refine blk_drew ?_ | refine blk_alloc ?_ _)); exact BK236.out⟩, ⟨by (with_reducible repeat (first | refine blk_drewN ?_ _ | refine blk_drew ?_ | refine blk_alloc ?_ _)); exact BK246.out⟩, ⟨by repeat (first | (with_reducible first | exact HB.out | apply below_alloc | apply pw_below_drewN | apply below_drew1 | refine below_set ?_ GE236.out | refine below_set ?_ GE246.out) | exact HB.out)⟩⟩
          case round =>
            clear H'
            try clear c1
            try clear c2
            try clear p2
            try clear c3
            try clear c5
            try clear c6
            try clear c6b0
            try clear c6b1
            try clear c6b2
            try clear c7
            try clear c7b0
            try clear c7b1
            try clear c7b2
            try clear c8
            try clear c10
            try clear c10b0
            try clear c12
            try clear c13
            try clear c14
            try clear c17
            try clear c27
            try clear hcz13_0
            try clear hcz13_1
            try clear hcz13_2
            try clear hcz13_3
            try clear hcz13_4
            try clear hcz13_5
            try clear hcz18_0
            try clear hcz18_1
            try clear hcz18_2
            try clear hcz18_3
            try clear hcz18_4
            try clear hcz18_5
            try clear hcz19_0
            try clear hcz19_1
            try clear hcz19_2
            try clear hcz19_3
            try clear hcz19_4
            try clear hcz19_5
            try clear hcz23_0
            try clear hcz23_1
            try clear hcz23_2
            try clear hcz23_3
            try clear hcz23_4
            try clear hcz23_5
            try clear hcz28_0
            try clear hcz28_1
            try clear hcz28_2
            try clear hcz28_3
            try clear hcz28_4
            try clear hcz28_5
            try clear hcz29_0
            try clear hcz29_1
            try clear hcz29_2
            try clear hcz29_3
            try clear hcz29_4
            try clear hcz29_5
            try clear hfz13_0
            try clear hfz13_1
            try clear hfz13_2
            try clear hfz13_3
            try clear hfz13_4
            try clear hfz13_5
            try clear hfz18_0
            try clear hfz18_1
            try clear hfz18_2
            try clear hfz18_3
            try clear hfz18_4
            try clear hfz18_5
            try clear hfz19_0
            try clear hfz19_1
            try clear hfz19_2
            try clear hfz19_3
            try clear hfz19_4
            try clear hfz19_5
            try clear hfz23_0
            try clear hfz23_1
            try clear hfz23_2
            try clear hfz23_3
            try clear hfz23_4
            try clear hfz23_5
            try clear hfz28_0
            try clear hfz28_1
            try clear hfz28_2
            try clear hfz28_3
            try clear hfz28_4
            try clear hfz28_5
            try clear hfz29_0
            try clear hfz29_1
            try clear hfz29_2
            try clear hfz29_3
            try clear hfz29_4
            try clear hfz29_5
            obtain ⟨x9_1, x10_1, rfl, rfl, HA, HK1, BK236, BK246, HB⟩ := hrel
            cases gk with
            | zero => exact absurd HA.out (by simp [laws_FnJobs.l0])
            | succ k1 =>
              have H := HA.out
              clear HA
              simp only [laws_FnJobs.l0] at H
              by_cases c31 : x10_1 < t247
              · rw [if_pos c31] at H
                have c31b0 : decide (x10_1 < t247) = true := decide_eq_true c31
                clear c31
                replace H := Option.bind_eq_some_iff.mp H
                obtain ⟨⟨t251, t252⟩, A320, H⟩ := H
                replace H : (if t251 < 1 then (some false) else (if t251 > t231 then (some false) else (if t252 = 0 then ((laws_btoi.f (t252 != 0)).bind fun t253 => (laws_FnJobs.l0 k1 t238 t245 t247 (wrap64 ((wrap64 (x9_1 + 1)) + t253)) (wrap64 (x10_1 + 1)) t230 t231 t232 t233 t234 t235 t239 t240 t241 t242 t243 t244)) else (if t252 = (wrap64 (t251 + 1)) then (if t233 = true then ((laws_btoi.f (t252 != 0)).bind fun t254 => (laws_FnJobs.l0 k1 t238 t245 t247 (wrap64 ((wrap64 (x9_1 + 1)) + t254)) (wrap64 (x10_1 + 1)) t230 t231 t232 t233 t234 t235 t239 t240 t241 t242 t243 t244)) else (some false)) else (some false))))) = some r := H
                have A32 := Aside0.mk A320
                clear A320
                by_cases c33 : t251 < 1
                · rw [if_pos c33] at H
                  have c33b0 : decide (t251 < 1) = true := decide_eq_true c33
                  clear c33
                  obtain rfl := Option.some.inj H
                  have hnb34 := NB236_246.out
                  have hnc34 := NB246_236.out
                  have hcz35_0 : wr.cell? ⟨gb236, 0, none⟩ = some (.int .i64 t230) := (blk_cell BK236.out 0).trans rfl
                  have hcz35_1 : wr.cell? ⟨gb236, 1, none⟩ = some (.int .i64 t231) := (blk_cell BK236.out 1).trans rfl
                  have hcz35_2 : wr.cell? ⟨gb236, 2, none⟩ = some (.int .i64 t232) := (blk_cell BK236.out 2).trans rfl
                  have hcz35_3 : wr.cell? ⟨gb236, 3, none⟩ = some (.bool t233) := (blk_cell BK236.out 3).trans rfl
                  have hcz35_4 : wr.cell? ⟨gb236, 4, none⟩ = some (.int .i64 t234) := (blk_cell BK236.out 4).trans rfl
                  have hcz35_5 : wr.cell? ⟨gb236, 5, none⟩ = some (.bool t235) := (blk_cell BK236.out 5).trans rfl
                  have hfz35_0 := blk_frozen BK236.out 0
                  have hfz35_1 := blk_frozen BK236.out 1
                  have hfz35_2 := blk_frozen BK236.out 2
                  have hfz35_3 := blk_frozen BK236.out 3
                  have hfz35_4 := blk_frozen BK236.out 4
                  have hfz35_5 := blk_frozen BK236.out 5
                  go_wp2_with (first | ((with_reducible refine gate_callee (f := 15) rfl ?_); refine goesL_ (some 43) rfl rfl Tryd.func15 (by kernel_rfl) rfl #[.agg #[.int .i64 t230, .int .i64 t231, .int .i64 t232, .bool t233, .int .i64 t234, .bool t235], .int .i64 x10_1] rfl (by (try simp only [List.map_toArray, List.map_cons, List.map_nil]); first | done | rfl | (simp only [List.length_drop, List.length_take]; rfl)) ?_; (with_reducible refine (impl_PageOfSheet.calls k1 t230 t231 t232 t233 t234 t235 x10_1 t251 t252 _ A32.out).mono ?_); rintro e w36 ⟨rfl, hb⟩; refine ⟨_, rfl, ?_⟩; have n0_ := Aside0.mk (blk_below (g := gb236) (o := .cells #[.int .i64 t230, .int .i64 t231, .int .i64 t232, .bool t233, .int .i64 t234, .bool t235] 26 (0, 0)) (by (with_reducible repeat (first | refine blk_drewN ?_ _ | refine blk_drew ?_ | refine blk_alloc ?_ _)); exact BK236.out) hb); have n1_ := Aside0.mk (blk_below (g := gb246) (o := .cells #[.int .i64 t239, .int .i64 t240, .int .i64 t241, .bool t242, .int .i64 t243, .bool t244] 26 (0, 0)) (by (with_reducible repeat (first | refine blk_drewN ?_ _ | refine blk_drew ?_ | refine blk_alloc ?_ _)); exact BK246.out) hb); have n2_ := Aside0.mk (below_step (by repeat (first | (with_reducible first | exact HB.out | apply below_alloc | apply pw_below_drewN | apply below_drew1 | refine below_set ?_ GE236.out | refine below_set ?_ GE246.out) | exact HB.out)) hb); clear BK236; clear BK246; clear HB; have BK236 := n0_; have BK246 := n1_; have HB := n2_; clear n0_ n1_ n2_; (try clear hb); (try clear hb2); (try clear hk); (try clear hi)))
                  go_ret
                  exact ⟨by first | rfl | (simp [errW_none, errW_some] <;> rfl) | (simp [*, errW_none, errW_some] <;> rfl), by repeat (first | (with_reducible first | exact HB.out | apply below_alloc | apply pw_below_drewN | apply below_drew1 | refine below_set ?_ GE236.out | refine below_set ?_ GE246.out) | exact HB.out)⟩
                · rw [if_neg c33] at H
                  have c33b0 : decide (t251 < 1) = false := decide_eq_false c33
                  clear c33
                  by_cases c37 : t251 > t231
                  · rw [if_pos c37] at H
                    have c37b0 : decide (t231 < t251) = true := decide_eq_true c37
                    clear c37
                    obtain rfl := Option.some.inj H
                    have hnb38 := NB236_246.out
                    have hnc38 := NB246_236.out
                    have hcz39_0 : wr.cell? ⟨gb236, 0, none⟩ = some (.int .i64 t230) := (blk_cell BK236.out 0).trans rfl
                    have hcz39_1 : wr.cell? ⟨gb236, 1, none⟩ = some (.int .i64 t231) := (blk_cell BK236.out 1).trans rfl
                    have hcz39_2 : wr.cell? ⟨gb236, 2, none⟩ = some (.int .i64 t232) := (blk_cell BK236.out 2).trans rfl
                    have hcz39_3 : wr.cell? ⟨gb236, 3, none⟩ = some (.bool t233) := (blk_cell BK236.out 3).trans rfl
                    have hcz39_4 : wr.cell? ⟨gb236, 4, none⟩ = some (.int .i64 t234) := (blk_cell BK236.out 4).trans rfl
                    have hcz39_5 : wr.cell? ⟨gb236, 5, none⟩ = some (.bool t235) := (blk_cell BK236.out 5).trans rfl
                    have hfz39_0 := blk_frozen BK236.out 0
                    have hfz39_1 := blk_frozen BK236.out 1
                    have hfz39_2 := blk_frozen BK236.out 2
                    have hfz39_3 := blk_frozen BK236.out 3
                    have hfz39_4 := blk_frozen BK236.out 4
                    have hfz39_5 := blk_frozen BK236.out 5
                    go_wp2_with (first | ((with_reducible refine gate_callee (f := 15) rfl ?_); refine goesL_ (some 43) rfl rfl Tryd.func15 (by kernel_rfl) rfl #[.agg #[.int .i64 t230, .int .i64 t231, .int .i64 t232, .bool t233, .int .i64 t234, .bool t235], .int .i64 x10_1] rfl (by (try simp only [List.map_toArray, List.map_cons, List.map_nil]); first | done | rfl | (simp only [List.length_drop, List.length_take]; rfl)) ?_; (with_reducible refine (impl_PageOfSheet.calls k1 t230 t231 t232 t233 t234 t235 x10_1 t251 t252 _ A32.out).mono ?_); rintro e w40 ⟨rfl, hb⟩; refine ⟨_, rfl, ?_⟩; have n0_ := Aside0.mk (blk_below (g := gb236) (o := .cells #[.int .i64 t230, .int .i64 t231, .int .i64 t232, .bool t233, .int .i64 t234, .bool t235] 26 (0, 0)) (by (with_reducible repeat (first | refine blk_drewN ?_ _ | refine blk_drew ?_ | refine blk_alloc ?_ _)); exact BK236.out) hb); have n1_ := Aside0.mk (blk_below (g := gb246) (o := .cells #[.int .i64 t239, .int .i64 t240, .int .i64 t241, .bool t242, .int .i64 t243, .bool t244] 26 (0, 0)) (by (with_reducible repeat (first | refine blk_drewN ?_ _ | refine blk_drew ?_ | refine blk_alloc ?_ _)); exact BK246.out) hb); have n2_ := Aside0.mk (below_step (by repeat (first | (with_reducible first | exact HB.out | apply below_alloc | apply pw_below_drewN | apply below_drew1 | refine below_set ?_ GE236.out | refine below_set ?_ GE246.out) | exact HB.out)) hb); clear BK236; clear BK246; clear HB; have BK236 := n0_; have BK246 := n1_; have HB := n2_; clear n0_ n1_ n2_; (try clear hb); (try clear hb2); (try clear hk); (try clear hi); have hcz41_0 : w40.cell? ⟨gb236, 0, none⟩ = some (.int .i64 t230) := (blk_cell BK236.out 0).trans rfl; have hcz41_1 : w40.cell? ⟨gb236, 1, none⟩ = some (.int .i64 t231) := (blk_cell BK236.out 1).trans rfl; have hcz41_2 : w40.cell? ⟨gb236, 2, none⟩ = some (.int .i64 t232) := (blk_cell BK236.out 2).trans rfl; have hcz41_3 : w40.cell? ⟨gb236, 3, none⟩ = some (.bool t233) := (blk_cell BK236.out 3).trans rfl; have hcz41_4 : w40.cell? ⟨gb236, 4, none⟩ = some (.int .i64 t234) := (blk_cell BK236.out 4).trans rfl; have hcz41_5 : w40.cell? ⟨gb236, 5, none⟩ = some (.bool t235) := (blk_cell BK236.out 5).trans rfl; have hfz41_0 := blk_frozen BK236.out 0; have hfz41_1 := blk_frozen BK236.out 1; have hfz41_2 := blk_frozen BK236.out 2; have hfz41_3 := blk_frozen BK236.out 3; have hfz41_4 := blk_frozen BK236.out 4; have hfz41_5 := blk_frozen BK236.out 5))
                    go_ret
                    exact ⟨by first | rfl | (simp [errW_none, errW_some] <;> rfl) | (simp [*, errW_none, errW_some] <;> rfl), by repeat (first | (with_reducible first | exact HB.out | apply below_alloc | apply pw_below_drewN | apply below_drew1 | refine below_set ?_ GE236.out | refine below_set ?_ GE246.out) | exact HB.out)⟩
                  · rw [if_neg c37] at H
                    have c37b0 : decide (t231 < t251) = false := decide_eq_false c37
                    clear c37
                    by_cases c42 : t252 = 0
                    · rw [if_pos c42] at H
                      have c42b0 : (t252 == 0) = true := beq_iff_eq.mpr c42
                      have c42b1 : (t252 != 0) = false := bne_eq_false_iff_eq.mpr c42
                      clear c42
                      replace H := Option.bind_eq_some_iff.mp H
                      obtain ⟨t253, A430, H⟩ := H
                      replace H : (laws_FnJobs.l0 k1 t238 t245 t247 (wrap64 ((wrap64 (x9_1 + 1)) + t253)) (wrap64 (x10_1 + 1)) t230 t231 t232 t233 t234 t235 t239 t240 t241 t242 t243 t244) = some r := H
                      have A43 := Aside0.mk (show laws_btoi.f false = some t253 by have q_ := A430; rw [c42b1] at q_; exact q_)
                      clear A430
                      have H' := Aside0.mk H
                      clear H
                      have hnb44 := NB236_246.out
                      have hnc44 := NB246_236.out
                      have hcz45_0 : wr.cell? ⟨gb236, 0, none⟩ = some (.int .i64 t230) := (blk_cell BK236.out 0).trans rfl
                      have hcz45_1 : wr.cell? ⟨gb236, 1, none⟩ = some (.int .i64 t231) := (blk_cell BK236.out 1).trans rfl
                      have hcz45_2 : wr.cell? ⟨gb236, 2, none⟩ = some (.int .i64 t232) := (blk_cell BK236.out 2).trans rfl
                      have hcz45_3 : wr.cell? ⟨gb236, 3, none⟩ = some (.bool t233) := (blk_cell BK236.out 3).trans rfl
                      have hcz45_4 : wr.cell? ⟨gb236, 4, none⟩ = some (.int .i64 t234) := (blk_cell BK236.out 4).trans rfl
                      have hcz45_5 : wr.cell? ⟨gb236, 5, none⟩ = some (.bool t235) := (blk_cell BK236.out 5).trans rfl
                      have hfz45_0 := blk_frozen BK236.out 0
                      have hfz45_1 := blk_frozen BK236.out 1
                      have hfz45_2 := blk_frozen BK236.out 2
                      have hfz45_3 := blk_frozen BK236.out 3
                      have hfz45_4 := blk_frozen BK236.out 4
                      have hfz45_5 := blk_frozen BK236.out 5
                      go_wp2_with (first | ((with_reducible refine gate_callee (f := 15) rfl ?_); refine goesL_ (some 43) rfl rfl Tryd.func15 (by kernel_rfl) rfl #[.agg #[.int .i64 t230, .int .i64 t231, .int .i64 t232, .bool t233, .int .i64 t234, .bool t235], .int .i64 x10_1] rfl (by (try simp only [List.map_toArray, List.map_cons, List.map_nil]); first | done | rfl | (simp only [List.length_drop, List.length_take]; rfl)) ?_; (with_reducible refine (impl_PageOfSheet.calls k1 t230 t231 t232 t233 t234 t235 x10_1 t251 t252 _ A32.out).mono ?_); rintro e w46 ⟨rfl, hb⟩; refine ⟨_, rfl, ?_⟩; have n0_ := Aside0.mk (blk_below (g := gb236) (o := .cells #[.int .i64 t230, .int .i64 t231, .int .i64 t232, .bool t233, .int .i64 t234, .bool t235] 26 (0, 0)) (by (with_reducible repeat (first | refine blk_drewN ?_ _ | refine blk_drew ?_ | refine blk_alloc ?_ _)); exact BK236.out) hb); have n1_ := Aside0.mk (blk_below (g := gb246) (o := .cells #[.int .i64 t239, .int .i64 t240, .int .i64 t241, .bool t242, .int .i64 t243, .bool t244] 26 (0, 0)) (by (with_reducible repeat (first | refine blk_drewN ?_ _ | refine blk_drew ?_ | refine blk_alloc ?_ _)); exact BK246.out) hb); have n2_ := Aside0.mk (below_step (by repeat (first | (with_reducible first | exact HB.out | apply below_alloc | apply pw_below_drewN | apply below_drew1 | refine below_set ?_ GE236.out | refine below_set ?_ GE246.out) | exact HB.out)) hb); clear BK236; clear BK246; clear HB; have BK236 := n0_; have BK246 := n1_; have HB := n2_; clear n0_ n1_ n2_; (try clear hb); (try clear hb2); (try clear hk); (try clear hi); have hcz47_0 : w46.cell? ⟨gb236, 0, none⟩ = some (.int .i64 t230) := (blk_cell BK236.out 0).trans rfl; have hcz47_1 : w46.cell? ⟨gb236, 1, none⟩ = some (.int .i64 t231) := (blk_cell BK236.out 1).trans rfl; have hcz47_2 : w46.cell? ⟨gb236, 2, none⟩ = some (.int .i64 t232) := (blk_cell BK236.out 2).trans rfl; have hcz47_3 : w46.cell? ⟨gb236, 3, none⟩ = some (.bool t233) := (blk_cell BK236.out 3).trans rfl; have hcz47_4 : w46.cell? ⟨gb236, 4, none⟩ = some (.int .i64 t234) := (blk_cell BK236.out 4).trans rfl; have hcz47_5 : w46.cell? ⟨gb236, 5, none⟩ = some (.bool t235) := (blk_cell BK236.out 5).trans rfl; have hfz47_0 := blk_frozen BK236.out 0; have hfz47_1 := blk_frozen BK236.out 1; have hfz47_2 := blk_frozen BK236.out 2; have hfz47_3 := blk_frozen BK236.out 3; have hfz47_4 := blk_frozen BK236.out 4; have hfz47_5 := blk_frozen BK236.out 5) | ((with_reducible refine gate_callee (f := 16) rfl ?_); refine goesL_ (some 77) rfl rfl Tryd.func16 (by kernel_rfl) rfl #[.bool false] rfl (by (try simp only [List.map_toArray, List.map_cons, List.map_nil]); first | done | rfl | (simp only [List.length_drop, List.length_take]; rfl)) ?_; (with_reducible refine (laws_btoi.calls false t253 _ A43.out).mono ?_); rintro e w' ⟨rfl, ⟨nd, rfl⟩⟩; refine ⟨_, rfl, ?_⟩))
                      go_roundg k1
                      case measure => have := HK1.out; omega
                      case rel => exact ⟨(wrap64 ((wrap64 (x9_1 + 1)) + t253)), (wrap64 (x10_1 + 1)), (by first | rfl | (simp; done) | (simp [*]; done)), (by first | rfl | (simp; done) | (simp [*]; done)), H', ⟨by have := HK1.out; omega⟩, ⟨by (with_reducible repeat (first | refine blk_drewN ?_ _ | refine blk_drew ?_ | refine blk_alloc ?_ _)); exact BK236.out⟩, ⟨by (with_reducible repeat (first | refine blk_drewN ?_ _ | refine blk_drew ?_ | refine blk_alloc ?_ _)); exact BK246.out⟩, ⟨by repeat (first | (with_reducible first | exact HB.out | apply below_alloc | apply pw_below_drewN | apply below_drew1 | refine below_set ?_ GE236.out | refine below_set ?_ GE246.out) | exact HB.out)⟩⟩
                    · rw [if_neg c42] at H
                      have c42b0 : (t252 == 0) = false := beq_eq_false_iff_ne.mpr c42
                      have c42b1 : (t252 != 0) = true := bne_iff_ne.mpr c42
                      by_cases c48 : t252 = (wrap64 (t251 + 1))
                      · rw [if_pos c48] at H
                        have c48b0 : (t252 == (wrap64 (t251 + 1))) = true := beq_iff_eq.mpr c48
                        have c48b1 : (t252 != (wrap64 (t251 + 1))) = false := bne_eq_false_iff_eq.mpr c48
                        clear c48
                        by_cases c49 : t233 = true
                        · subst c49
                          have H1 : ((laws_btoi.f (t252 != 0)).bind fun t254 => (laws_FnJobs.l0 k1 t238 t245 t247 (wrap64 ((wrap64 (x9_1 + 1)) + t254)) (wrap64 (x10_1 + 1)) t230 t231 t232 true t234 t235 t239 t240 t241 t242 t243 t244)) = some r := by rw [if_pos rfl] at H; exact H
                          clear H
                          have H := H1
                          clear H1
                          replace H := Option.bind_eq_some_iff.mp H
                          obtain ⟨t254, A500, H⟩ := H
                          replace H : (laws_FnJobs.l0 k1 t238 t245 t247 (wrap64 ((wrap64 (x9_1 + 1)) + t254)) (wrap64 (x10_1 + 1)) t230 t231 t232 true t234 t235 t239 t240 t241 t242 t243 t244) = some r := H
                          have A50 := Aside0.mk (show laws_btoi.f true = some t254 by have q_ := A500; rw [c42b1] at q_; exact q_)
                          clear A500
                          have H' := Aside0.mk H
                          clear H
                          have hnb51 := NB236_246.out
                          have hnc51 := NB246_236.out
                          have hcz52_0 : wr.cell? ⟨gb236, 0, none⟩ = some (.int .i64 t230) := (blk_cell BK236.out 0).trans rfl
                          have hcz52_1 : wr.cell? ⟨gb236, 1, none⟩ = some (.int .i64 t231) := (blk_cell BK236.out 1).trans rfl
                          have hcz52_2 : wr.cell? ⟨gb236, 2, none⟩ = some (.int .i64 t232) := (blk_cell BK236.out 2).trans rfl
                          have hcz52_3 : wr.cell? ⟨gb236, 3, none⟩ = some (.bool true) := (blk_cell BK236.out 3).trans rfl
                          have hcz52_4 : wr.cell? ⟨gb236, 4, none⟩ = some (.int .i64 t234) := (blk_cell BK236.out 4).trans rfl
                          have hcz52_5 : wr.cell? ⟨gb236, 5, none⟩ = some (.bool t235) := (blk_cell BK236.out 5).trans rfl
                          have hfz52_0 := blk_frozen BK236.out 0
                          have hfz52_1 := blk_frozen BK236.out 1
                          have hfz52_2 := blk_frozen BK236.out 2
                          have hfz52_3 := blk_frozen BK236.out 3
                          have hfz52_4 := blk_frozen BK236.out 4
                          have hfz52_5 := blk_frozen BK236.out 5
                          go_wp2_with (first | ((with_reducible refine gate_callee (f := 15) rfl ?_); refine goesL_ (some 43) rfl rfl Tryd.func15 (by kernel_rfl) rfl #[.agg #[.int .i64 t230, .int .i64 t231, .int .i64 t232, .bool true, .int .i64 t234, .bool t235], .int .i64 x10_1] rfl (by (try simp only [List.map_toArray, List.map_cons, List.map_nil]); first | done | rfl | (simp only [List.length_drop, List.length_take]; rfl)) ?_; (with_reducible refine (impl_PageOfSheet.calls k1 t230 t231 t232 true t234 t235 x10_1 t251 t252 _ A32.out).mono ?_); rintro e w53 ⟨rfl, hb⟩; refine ⟨_, rfl, ?_⟩; have n0_ := Aside0.mk (blk_below (g := gb236) (o := .cells #[.int .i64 t230, .int .i64 t231, .int .i64 t232, .bool true, .int .i64 t234, .bool t235] 26 (0, 0)) (by (with_reducible repeat (first | refine blk_drewN ?_ _ | refine blk_drew ?_ | refine blk_alloc ?_ _)); exact BK236.out) hb); have n1_ := Aside0.mk (blk_below (g := gb246) (o := .cells #[.int .i64 t239, .int .i64 t240, .int .i64 t241, .bool t242, .int .i64 t243, .bool t244] 26 (0, 0)) (by (with_reducible repeat (first | refine blk_drewN ?_ _ | refine blk_drew ?_ | refine blk_alloc ?_ _)); exact BK246.out) hb); have n2_ := Aside0.mk (below_step (by repeat (first | (with_reducible first | exact HB.out | apply below_alloc | apply pw_below_drewN | apply below_drew1 | refine below_set ?_ GE236.out | refine below_set ?_ GE246.out) | exact HB.out)) hb); clear BK236; clear BK246; clear HB; have BK236 := n0_; have BK246 := n1_; have HB := n2_; clear n0_ n1_ n2_; (try clear hb); (try clear hb2); (try clear hk); (try clear hi); have hcz54_0 : w53.cell? ⟨gb236, 0, none⟩ = some (.int .i64 t230) := (blk_cell BK236.out 0).trans rfl; have hcz54_1 : w53.cell? ⟨gb236, 1, none⟩ = some (.int .i64 t231) := (blk_cell BK236.out 1).trans rfl; have hcz54_2 : w53.cell? ⟨gb236, 2, none⟩ = some (.int .i64 t232) := (blk_cell BK236.out 2).trans rfl; have hcz54_3 : w53.cell? ⟨gb236, 3, none⟩ = some (.bool true) := (blk_cell BK236.out 3).trans rfl; have hcz54_4 : w53.cell? ⟨gb236, 4, none⟩ = some (.int .i64 t234) := (blk_cell BK236.out 4).trans rfl; have hcz54_5 : w53.cell? ⟨gb236, 5, none⟩ = some (.bool t235) := (blk_cell BK236.out 5).trans rfl; have hfz54_0 := blk_frozen BK236.out 0; have hfz54_1 := blk_frozen BK236.out 1; have hfz54_2 := blk_frozen BK236.out 2; have hfz54_3 := blk_frozen BK236.out 3; have hfz54_4 := blk_frozen BK236.out 4; have hfz54_5 := blk_frozen BK236.out 5) | ((with_reducible refine gate_callee (f := 16) rfl ?_); refine goesL_ (some 77) rfl rfl Tryd.func16 (by kernel_rfl) rfl #[.bool true] rfl (by (try simp only [List.map_toArray, List.map_cons, List.map_nil]); first | done | rfl | (simp only [List.length_drop, List.length_take]; rfl)) ?_; (with_reducible refine (laws_btoi.calls true t254 _ A50.out).mono ?_); rintro e w' ⟨rfl, ⟨nd, rfl⟩⟩; refine ⟨_, rfl, ?_⟩))
                          go_roundg k1
                          case measure => have := HK1.out; omega
                          case rel => exact ⟨(wrap64 ((wrap64 (x9_1 + 1)) + t254)), (wrap64 (x10_1 + 1)), (by first | rfl | (simp; done) | (simp [*]; done)), (by first | rfl | (simp; done) | (simp [*]; done)), H', ⟨by have := HK1.out; omega⟩, ⟨by (with_reducible repeat (first | refine blk_drewN ?_ _ | refine blk_drew ?_ | refine blk_alloc ?_ _)); exact BK236.out⟩, ⟨by (with_reducible repeat (first | refine blk_drewN ?_ _ | refine blk_drew ?_ | refine blk_alloc ?_ _)); exact BK246.out⟩, ⟨by repeat (first | (with_reducible first | exact HB.out | apply below_alloc | apply pw_below_drewN | apply below_drew1 | refine below_set ?_ GE236.out | refine below_set ?_ GE246.out) | exact HB.out)⟩⟩
                        · replace c49 := Bool.eq_false_iff.mpr c49
                          subst c49
                          have H1 : (some false) = some r := by rw [if_neg (show ¬ (false = true) by decide)] at H; exact H
                          clear H
                          have H := H1
                          clear H1
                          obtain rfl := Option.some.inj H
                          have hnb55 := NB236_246.out
                          have hnc55 := NB246_236.out
                          have hcz56_0 : wr.cell? ⟨gb236, 0, none⟩ = some (.int .i64 t230) := (blk_cell BK236.out 0).trans rfl
                          have hcz56_1 : wr.cell? ⟨gb236, 1, none⟩ = some (.int .i64 t231) := (blk_cell BK236.out 1).trans rfl
                          have hcz56_2 : wr.cell? ⟨gb236, 2, none⟩ = some (.int .i64 t232) := (blk_cell BK236.out 2).trans rfl
                          have hcz56_3 : wr.cell? ⟨gb236, 3, none⟩ = some (.bool false) := (blk_cell BK236.out 3).trans rfl
                          have hcz56_4 : wr.cell? ⟨gb236, 4, none⟩ = some (.int .i64 t234) := (blk_cell BK236.out 4).trans rfl
                          have hcz56_5 : wr.cell? ⟨gb236, 5, none⟩ = some (.bool t235) := (blk_cell BK236.out 5).trans rfl
                          have hfz56_0 := blk_frozen BK236.out 0
                          have hfz56_1 := blk_frozen BK236.out 1
                          have hfz56_2 := blk_frozen BK236.out 2
                          have hfz56_3 := blk_frozen BK236.out 3
                          have hfz56_4 := blk_frozen BK236.out 4
                          have hfz56_5 := blk_frozen BK236.out 5
                          go_wp2_with (first | ((with_reducible refine gate_callee (f := 15) rfl ?_); refine goesL_ (some 43) rfl rfl Tryd.func15 (by kernel_rfl) rfl #[.agg #[.int .i64 t230, .int .i64 t231, .int .i64 t232, .bool false, .int .i64 t234, .bool t235], .int .i64 x10_1] rfl (by (try simp only [List.map_toArray, List.map_cons, List.map_nil]); first | done | rfl | (simp only [List.length_drop, List.length_take]; rfl)) ?_; (with_reducible refine (impl_PageOfSheet.calls k1 t230 t231 t232 false t234 t235 x10_1 t251 t252 _ A32.out).mono ?_); rintro e w57 ⟨rfl, hb⟩; refine ⟨_, rfl, ?_⟩; have n0_ := Aside0.mk (blk_below (g := gb236) (o := .cells #[.int .i64 t230, .int .i64 t231, .int .i64 t232, .bool false, .int .i64 t234, .bool t235] 26 (0, 0)) (by (with_reducible repeat (first | refine blk_drewN ?_ _ | refine blk_drew ?_ | refine blk_alloc ?_ _)); exact BK236.out) hb); have n1_ := Aside0.mk (blk_below (g := gb246) (o := .cells #[.int .i64 t239, .int .i64 t240, .int .i64 t241, .bool t242, .int .i64 t243, .bool t244] 26 (0, 0)) (by (with_reducible repeat (first | refine blk_drewN ?_ _ | refine blk_drew ?_ | refine blk_alloc ?_ _)); exact BK246.out) hb); have n2_ := Aside0.mk (below_step (by repeat (first | (with_reducible first | exact HB.out | apply below_alloc | apply pw_below_drewN | apply below_drew1 | refine below_set ?_ GE236.out | refine below_set ?_ GE246.out) | exact HB.out)) hb); clear BK236; clear BK246; clear HB; have BK236 := n0_; have BK246 := n1_; have HB := n2_; clear n0_ n1_ n2_; (try clear hb); (try clear hb2); (try clear hk); (try clear hi); have hcz58_0 : w57.cell? ⟨gb236, 0, none⟩ = some (.int .i64 t230) := (blk_cell BK236.out 0).trans rfl; have hcz58_1 : w57.cell? ⟨gb236, 1, none⟩ = some (.int .i64 t231) := (blk_cell BK236.out 1).trans rfl; have hcz58_2 : w57.cell? ⟨gb236, 2, none⟩ = some (.int .i64 t232) := (blk_cell BK236.out 2).trans rfl; have hcz58_3 : w57.cell? ⟨gb236, 3, none⟩ = some (.bool false) := (blk_cell BK236.out 3).trans rfl; have hcz58_4 : w57.cell? ⟨gb236, 4, none⟩ = some (.int .i64 t234) := (blk_cell BK236.out 4).trans rfl; have hcz58_5 : w57.cell? ⟨gb236, 5, none⟩ = some (.bool t235) := (blk_cell BK236.out 5).trans rfl; have hfz58_0 := blk_frozen BK236.out 0; have hfz58_1 := blk_frozen BK236.out 1; have hfz58_2 := blk_frozen BK236.out 2; have hfz58_3 := blk_frozen BK236.out 3; have hfz58_4 := blk_frozen BK236.out 4; have hfz58_5 := blk_frozen BK236.out 5))
                          go_ret
                          exact ⟨by first | rfl | (simp [errW_none, errW_some] <;> rfl) | (simp [*, errW_none, errW_some] <;> rfl), by repeat (first | (with_reducible first | exact HB.out | apply below_alloc | apply pw_below_drewN | apply below_drew1 | refine below_set ?_ GE236.out | refine below_set ?_ GE246.out) | exact HB.out)⟩
                      · rw [if_neg c48] at H
                        have c48b0 : (t252 == (wrap64 (t251 + 1))) = false := beq_eq_false_iff_ne.mpr c48
                        have c48b1 : (t252 != (wrap64 (t251 + 1))) = true := bne_iff_ne.mpr c48
                        obtain rfl := Option.some.inj H
                        have hnb59 := NB236_246.out
                        have hnc59 := NB246_236.out
                        have hcz60_0 : wr.cell? ⟨gb236, 0, none⟩ = some (.int .i64 t230) := (blk_cell BK236.out 0).trans rfl
                        have hcz60_1 : wr.cell? ⟨gb236, 1, none⟩ = some (.int .i64 t231) := (blk_cell BK236.out 1).trans rfl
                        have hcz60_2 : wr.cell? ⟨gb236, 2, none⟩ = some (.int .i64 t232) := (blk_cell BK236.out 2).trans rfl
                        have hcz60_3 : wr.cell? ⟨gb236, 3, none⟩ = some (.bool t233) := (blk_cell BK236.out 3).trans rfl
                        have hcz60_4 : wr.cell? ⟨gb236, 4, none⟩ = some (.int .i64 t234) := (blk_cell BK236.out 4).trans rfl
                        have hcz60_5 : wr.cell? ⟨gb236, 5, none⟩ = some (.bool t235) := (blk_cell BK236.out 5).trans rfl
                        have hfz60_0 := blk_frozen BK236.out 0
                        have hfz60_1 := blk_frozen BK236.out 1
                        have hfz60_2 := blk_frozen BK236.out 2
                        have hfz60_3 := blk_frozen BK236.out 3
                        have hfz60_4 := blk_frozen BK236.out 4
                        have hfz60_5 := blk_frozen BK236.out 5
                        go_wp2_with (first | ((with_reducible refine gate_callee (f := 15) rfl ?_); refine goesL_ (some 43) rfl rfl Tryd.func15 (by kernel_rfl) rfl #[.agg #[.int .i64 t230, .int .i64 t231, .int .i64 t232, .bool t233, .int .i64 t234, .bool t235], .int .i64 x10_1] rfl (by (try simp only [List.map_toArray, List.map_cons, List.map_nil]); first | done | rfl | (simp only [List.length_drop, List.length_take]; rfl)) ?_; (with_reducible refine (impl_PageOfSheet.calls k1 t230 t231 t232 t233 t234 t235 x10_1 t251 t252 _ A32.out).mono ?_); rintro e w61 ⟨rfl, hb⟩; refine ⟨_, rfl, ?_⟩; have n0_ := Aside0.mk (blk_below (g := gb236) (o := .cells #[.int .i64 t230, .int .i64 t231, .int .i64 t232, .bool t233, .int .i64 t234, .bool t235] 26 (0, 0)) (by (with_reducible repeat (first | refine blk_drewN ?_ _ | refine blk_drew ?_ | refine blk_alloc ?_ _)); exact BK236.out) hb); have n1_ := Aside0.mk (blk_below (g := gb246) (o := .cells #[.int .i64 t239, .int .i64 t240, .int .i64 t241, .bool t242, .int .i64 t243, .bool t244] 26 (0, 0)) (by (with_reducible repeat (first | refine blk_drewN ?_ _ | refine blk_drew ?_ | refine blk_alloc ?_ _)); exact BK246.out) hb); have n2_ := Aside0.mk (below_step (by repeat (first | (with_reducible first | exact HB.out | apply below_alloc | apply pw_below_drewN | apply below_drew1 | refine below_set ?_ GE236.out | refine below_set ?_ GE246.out) | exact HB.out)) hb); clear BK236; clear BK246; clear HB; have BK236 := n0_; have BK246 := n1_; have HB := n2_; clear n0_ n1_ n2_; (try clear hb); (try clear hb2); (try clear hk); (try clear hi); have hcz62_0 : w61.cell? ⟨gb236, 0, none⟩ = some (.int .i64 t230) := (blk_cell BK236.out 0).trans rfl; have hcz62_1 : w61.cell? ⟨gb236, 1, none⟩ = some (.int .i64 t231) := (blk_cell BK236.out 1).trans rfl; have hcz62_2 : w61.cell? ⟨gb236, 2, none⟩ = some (.int .i64 t232) := (blk_cell BK236.out 2).trans rfl; have hcz62_3 : w61.cell? ⟨gb236, 3, none⟩ = some (.bool t233) := (blk_cell BK236.out 3).trans rfl; have hcz62_4 : w61.cell? ⟨gb236, 4, none⟩ = some (.int .i64 t234) := (blk_cell BK236.out 4).trans rfl; have hcz62_5 : w61.cell? ⟨gb236, 5, none⟩ = some (.bool t235) := (blk_cell BK236.out 5).trans rfl; have hfz62_0 := blk_frozen BK236.out 0; have hfz62_1 := blk_frozen BK236.out 1; have hfz62_2 := blk_frozen BK236.out 2; have hfz62_3 := blk_frozen BK236.out 3; have hfz62_4 := blk_frozen BK236.out 4; have hfz62_5 := blk_frozen BK236.out 5))
                        go_ret
                        exact ⟨by first | rfl | (simp [errW_none, errW_some] <;> rfl) | (simp [*, errW_none, errW_some] <;> rfl), by repeat (first | (with_reducible first | exact HB.out | apply below_alloc | apply pw_below_drewN | apply below_drew1 | refine below_set ?_ GE236.out | refine below_set ?_ GE246.out) | exact HB.out)⟩
              · rw [if_neg c31] at H
                have c31b0 : decide (x10_1 < t247) = false := decide_eq_false c31
                clear c31
                replace H := Option.bind_eq_some_iff.mp H
                obtain ⟨⟨t248, t249⟩, A630, H⟩ := H
                replace H : ((impl_JobOk.f t230 t231 t232 t233 t234 t235).bind fun t250 => (if t250 = true then (if t238 = true then (if t245 = true then (if (t239 == t230 && (t240 == t231 && (t241 == t232 && (t242 == t233 && (t243 == t234 && (t244 == t235)))))) = true then (if x9_1 = (wrap64 (t232 * t231)) then (if t248 = 0 then (some (t249 == 0)) else (some false)) else (some false)) else (some false)) else (some false)) else (some false)) else (some false))) = some r := H
                have A63 := Aside0.mk A630
                clear A630
                replace H := Option.bind_eq_some_iff.mp H
                obtain ⟨t250, A640, H⟩ := H
                replace H : (if t250 = true then (if t238 = true then (if t245 = true then (if (t239 == t230 && (t240 == t231 && (t241 == t232 && (t242 == t233 && (t243 == t234 && (t244 == t235)))))) = true then (if x9_1 = (wrap64 (t232 * t231)) then (if t248 = 0 then (some (t249 == 0)) else (some false)) else (some false)) else (some false)) else (some false)) else (some false)) else (some false)) = some r := H
                have A64 := Aside0.mk A640
                clear A640
                by_cases c65 : t250 = true
                · subst c65
                  have H1 : (if t238 = true then (if t245 = true then (if (t239 == t230 && (t240 == t231 && (t241 == t232 && (t242 == t233 && (t243 == t234 && (t244 == t235)))))) = true then (if x9_1 = (wrap64 (t232 * t231)) then (if t248 = 0 then (some (t249 == 0)) else (some false)) else (some false)) else (some false)) else (some false)) else (some false)) = some r := by rw [if_pos rfl] at H; exact H
                  clear H
                  have H := H1
                  clear H1
                  by_cases c66 : t238 = true
                  · subst c66
                    have H1 : (if t245 = true then (if (t239 == t230 && (t240 == t231 && (t241 == t232 && (t242 == t233 && (t243 == t234 && (t244 == t235)))))) = true then (if x9_1 = (wrap64 (t232 * t231)) then (if t248 = 0 then (some (t249 == 0)) else (some false)) else (some false)) else (some false)) else (some false)) = some r := by rw [if_pos rfl] at H; exact H
                    clear H
                    have H := H1
                    clear H1
                    by_cases c67 : t245 = true
                    · subst c67
                      have H1 : (if (t239 == t230 && (t240 == t231 && (t241 == t232 && (t242 == t233 && (t243 == t234 && (t244 == t235)))))) = true then (if x9_1 = (wrap64 (t232 * t231)) then (if t248 = 0 then (some (t249 == 0)) else (some false)) else (some false)) else (some false)) = some r := by rw [if_pos rfl] at H; exact H
                      clear H
                      have H := H1
                      clear H1
                      by_cases c68 : (t239 == t230 && (t240 == t231 && (t241 == t232 && (t242 == t233 && (t243 == t234 && (t244 == t235)))))) = true
                      · rw [if_pos c68] at H
                        have c68b0 : (t239 == t230 && (t240 == t231 && (t241 == t232 && (t242 == t233 && (t243 == t234 && (t244 == t235)))))) = true := c68
                        (try (have c68b1 : decide (t239 = t230 && (t240 == t231 && (t241 == t232 && (t242 == t233 && (t243 == t234 && (t244 == t235)))))) = true := by simpa using c68))
                        (try (have c68b2 : (t239 == t230 && (t240 == t231 && (t241 == t232 && (t242 == t233 && (t243 == t234 && (t244 == t235)))))) = true := by simpa using c68))
                        clear c68
                        by_cases c69 : x9_1 = (wrap64 (t232 * t231))
                        · rw [if_pos c69] at H
                          have c69b0 : (x9_1 == (wrap64 (t232 * t231))) = true := beq_iff_eq.mpr c69
                          have c69b1 : (x9_1 != (wrap64 (t232 * t231))) = false := bne_eq_false_iff_eq.mpr c69
                          clear c69
                          by_cases c70 : t248 = 0
                          · rw [if_pos c70] at H
                            have c70b0 : (t248 == 0) = true := beq_iff_eq.mpr c70
                            have c70b1 : (t248 != 0) = false := bne_eq_false_iff_eq.mpr c70
                            clear c70
                            obtain rfl := Option.some.inj H
                            have hnb71 := NB236_246.out
                            have hnc71 := NB246_236.out
                            have hcz72_0 : wr.cell? ⟨gb236, 0, none⟩ = some (.int .i64 t230) := (blk_cell BK236.out 0).trans rfl
                            have hcz72_1 : wr.cell? ⟨gb236, 1, none⟩ = some (.int .i64 t231) := (blk_cell BK236.out 1).trans rfl
                            have hcz72_2 : wr.cell? ⟨gb236, 2, none⟩ = some (.int .i64 t232) := (blk_cell BK236.out 2).trans rfl
                            have hcz72_3 : wr.cell? ⟨gb236, 3, none⟩ = some (.bool t233) := (blk_cell BK236.out 3).trans rfl
                            have hcz72_4 : wr.cell? ⟨gb236, 4, none⟩ = some (.int .i64 t234) := (blk_cell BK236.out 4).trans rfl
                            have hcz72_5 : wr.cell? ⟨gb236, 5, none⟩ = some (.bool t235) := (blk_cell BK236.out 5).trans rfl
                            have hfz72_0 := blk_frozen BK236.out 0
                            have hfz72_1 := blk_frozen BK236.out 1
                            have hfz72_2 := blk_frozen BK236.out 2
                            have hfz72_3 := blk_frozen BK236.out 3
                            have hfz72_4 := blk_frozen BK236.out 4
                            have hfz72_5 := blk_frozen BK236.out 5
                            go_wp2_with (first | ((with_reducible refine gate_callee (f := 15) rfl ?_); refine goesL_ (some 82) rfl rfl Tryd.func15 (by kernel_rfl) rfl #[.agg #[.int .i64 t230, .int .i64 t231, .int .i64 t232, .bool t233, .int .i64 t234, .bool t235], .int .i64 t247] rfl (by (try simp only [List.map_toArray, List.map_cons, List.map_nil]); first | done | rfl | (simp only [List.length_drop, List.length_take]; rfl)) ?_; (with_reducible refine (impl_PageOfSheet.calls k1 t230 t231 t232 t233 t234 t235 t247 t248 t249 _ A63.out).mono ?_); rintro e w73 ⟨rfl, hb⟩; refine ⟨_, rfl, ?_⟩; have n0_ := Aside0.mk (blk_below (g := gb236) (o := .cells #[.int .i64 t230, .int .i64 t231, .int .i64 t232, .bool t233, .int .i64 t234, .bool t235] 26 (0, 0)) (by (with_reducible repeat (first | refine blk_drewN ?_ _ | refine blk_drew ?_ | refine blk_alloc ?_ _)); exact BK236.out) hb); have n1_ := Aside0.mk (blk_below (g := gb246) (o := .cells #[.int .i64 t239, .int .i64 t240, .int .i64 t241, .bool t242, .int .i64 t243, .bool t244] 26 (0, 0)) (by (with_reducible repeat (first | refine blk_drewN ?_ _ | refine blk_drew ?_ | refine blk_alloc ?_ _)); exact BK246.out) hb); have n2_ := Aside0.mk (below_step (by repeat (first | (with_reducible first | exact HB.out | apply below_alloc | apply pw_below_drewN | apply below_drew1 | refine below_set ?_ GE236.out | refine below_set ?_ GE246.out) | exact HB.out)) hb); clear BK236; clear BK246; clear HB; have BK236 := n0_; have BK246 := n1_; have HB := n2_; clear n0_ n1_ n2_; (try clear hb); (try clear hb2); (try clear hk); (try clear hi); have hcz74_0 : w73.cell? ⟨gb236, 0, none⟩ = some (.int .i64 t230) := (blk_cell BK236.out 0).trans rfl; have hcz74_1 : w73.cell? ⟨gb236, 1, none⟩ = some (.int .i64 t231) := (blk_cell BK236.out 1).trans rfl; have hcz74_2 : w73.cell? ⟨gb236, 2, none⟩ = some (.int .i64 t232) := (blk_cell BK236.out 2).trans rfl; have hcz74_3 : w73.cell? ⟨gb236, 3, none⟩ = some (.bool t233) := (blk_cell BK236.out 3).trans rfl; have hcz74_4 : w73.cell? ⟨gb236, 4, none⟩ = some (.int .i64 t234) := (blk_cell BK236.out 4).trans rfl; have hcz74_5 : w73.cell? ⟨gb236, 5, none⟩ = some (.bool t235) := (blk_cell BK236.out 5).trans rfl; have hfz74_0 := blk_frozen BK236.out 0; have hfz74_1 := blk_frozen BK236.out 1; have hfz74_2 := blk_frozen BK236.out 2; have hfz74_3 := blk_frozen BK236.out 3; have hfz74_4 := blk_frozen BK236.out 4; have hfz74_5 := blk_frozen BK236.out 5) | ((with_reducible refine gate_callee (f := 17) rfl ?_); refine goesL_ (some 86) rfl rfl Tryd.func17 (by kernel_rfl) rfl #[.agg #[.int .i64 t230, .int .i64 t231, .int .i64 t232, .bool t233, .int .i64 t234, .bool t235]] rfl (by (try simp only [List.map_toArray, List.map_cons, List.map_nil]); first | done | rfl | (simp only [List.length_drop, List.length_take]; rfl)) ?_; (with_reducible refine (impl_JobOk.calls t230 t231 t232 t233 t234 t235 true _ A64.out).mono ?_); rintro e w75 ⟨rfl, hb⟩; refine ⟨_, rfl, ?_⟩; have n0_ := Aside0.mk (blk_below (g := gb236) (o := .cells #[.int .i64 t230, .int .i64 t231, .int .i64 t232, .bool t233, .int .i64 t234, .bool t235] 26 (0, 0)) (by (with_reducible repeat (first | refine blk_drewN ?_ _ | refine blk_drew ?_ | refine blk_alloc ?_ _)); exact BK236.out) hb); have n1_ := Aside0.mk (blk_below (g := gb246) (o := .cells #[.int .i64 t239, .int .i64 t240, .int .i64 t241, .bool t242, .int .i64 t243, .bool t244] 26 (0, 0)) (by (with_reducible repeat (first | refine blk_drewN ?_ _ | refine blk_drew ?_ | refine blk_alloc ?_ _)); exact BK246.out) hb); have n2_ := Aside0.mk (below_step (by repeat (first | (with_reducible first | exact HB.out | apply below_alloc | apply pw_below_drewN | apply below_drew1 | refine below_set ?_ GE236.out | refine below_set ?_ GE246.out) | exact HB.out)) hb); clear BK236; clear BK246; clear HB; have BK236 := n0_; have BK246 := n1_; have HB := n2_; clear n0_ n1_ n2_; (try clear hb); (try clear hb2); (try clear hk); (try clear hi); have hcz76_0 : w75.cell? ⟨gb246, 0, none⟩ = some (.int .i64 t239) := (blk_cell BK246.out 0).trans rfl; have hcz76_1 : w75.cell? ⟨gb246, 1, none⟩ = some (.int .i64 t240) := (blk_cell BK246.out 1).trans rfl; have hcz76_2 : w75.cell? ⟨gb246, 2, none⟩ = some (.int .i64 t241) := (blk_cell BK246.out 2).trans rfl; have hcz76_3 : w75.cell? ⟨gb246, 3, none⟩ = some (.bool t242) := (blk_cell BK246.out 3).trans rfl; have hcz76_4 : w75.cell? ⟨gb246, 4, none⟩ = some (.int .i64 t243) := (blk_cell BK246.out 4).trans rfl; have hcz76_5 : w75.cell? ⟨gb246, 5, none⟩ = some (.bool t244) := (blk_cell BK246.out 5).trans rfl; have hfz76_0 := blk_frozen BK246.out 0; have hfz76_1 := blk_frozen BK246.out 1; have hfz76_2 := blk_frozen BK246.out 2; have hfz76_3 := blk_frozen BK246.out 3; have hfz76_4 := blk_frozen BK246.out 4; have hfz76_5 := blk_frozen BK246.out 5; have hcz77_0 : w75.cell? ⟨gb236, 0, none⟩ = some (.int .i64 t230) := (blk_cell BK236.out 0).trans rfl; have hcz77_1 : w75.cell? ⟨gb236, 1, none⟩ = some (.int .i64 t231) := (blk_cell BK236.out 1).trans rfl; have hcz77_2 : w75.cell? ⟨gb236, 2, none⟩ = some (.int .i64 t232) := (blk_cell BK236.out 2).trans rfl; have hcz77_3 : w75.cell? ⟨gb236, 3, none⟩ = some (.bool t233) := (blk_cell BK236.out 3).trans rfl; have hcz77_4 : w75.cell? ⟨gb236, 4, none⟩ = some (.int .i64 t234) := (blk_cell BK236.out 4).trans rfl; have hcz77_5 : w75.cell? ⟨gb236, 5, none⟩ = some (.bool t235) := (blk_cell BK236.out 5).trans rfl; have hfz77_0 := blk_frozen BK236.out 0; have hfz77_1 := blk_frozen BK236.out 1; have hfz77_2 := blk_frozen BK236.out 2; have hfz77_3 := blk_frozen BK236.out 3; have hfz77_4 := blk_frozen BK236.out 4; have hfz77_5 := blk_frozen BK236.out 5))
                            go_ret
                            exact ⟨by first | rfl | (simp [errW_none, errW_some] <;> rfl) | (simp [*, errW_none, errW_some] <;> rfl), by repeat (first | (with_reducible first | exact HB.out | apply below_alloc | apply pw_below_drewN | apply below_drew1 | refine below_set ?_ GE236.out | refine below_set ?_ GE246.out) | exact HB.out)⟩
                          · rw [if_neg c70] at H
                            have c70b0 : (t248 == 0) = false := beq_eq_false_iff_ne.mpr c70
                            have c70b1 : (t248 != 0) = true := bne_iff_ne.mpr c70
                            obtain rfl := Option.some.inj H
                            have hnb78 := NB236_246.out
                            have hnc78 := NB246_236.out
                            have hcz79_0 : wr.cell? ⟨gb236, 0, none⟩ = some (.int .i64 t230) := (blk_cell BK236.out 0).trans rfl
                            have hcz79_1 : wr.cell? ⟨gb236, 1, none⟩ = some (.int .i64 t231) := (blk_cell BK236.out 1).trans rfl
                            have hcz79_2 : wr.cell? ⟨gb236, 2, none⟩ = some (.int .i64 t232) := (blk_cell BK236.out 2).trans rfl
                            have hcz79_3 : wr.cell? ⟨gb236, 3, none⟩ = some (.bool t233) := (blk_cell BK236.out 3).trans rfl
                            have hcz79_4 : wr.cell? ⟨gb236, 4, none⟩ = some (.int .i64 t234) := (blk_cell BK236.out 4).trans rfl
                            have hcz79_5 : wr.cell? ⟨gb236, 5, none⟩ = some (.bool t235) := (blk_cell BK236.out 5).trans rfl
                            have hfz79_0 := blk_frozen BK236.out 0
                            have hfz79_1 := blk_frozen BK236.out 1
                            have hfz79_2 := blk_frozen BK236.out 2
                            have hfz79_3 := blk_frozen BK236.out 3
                            have hfz79_4 := blk_frozen BK236.out 4
                            have hfz79_5 := blk_frozen BK236.out 5
                            go_wp2_with (first | ((with_reducible refine gate_callee (f := 15) rfl ?_); refine goesL_ (some 82) rfl rfl Tryd.func15 (by kernel_rfl) rfl #[.agg #[.int .i64 t230, .int .i64 t231, .int .i64 t232, .bool t233, .int .i64 t234, .bool t235], .int .i64 t247] rfl (by (try simp only [List.map_toArray, List.map_cons, List.map_nil]); first | done | rfl | (simp only [List.length_drop, List.length_take]; rfl)) ?_; (with_reducible refine (impl_PageOfSheet.calls k1 t230 t231 t232 t233 t234 t235 t247 t248 t249 _ A63.out).mono ?_); rintro e w80 ⟨rfl, hb⟩; refine ⟨_, rfl, ?_⟩; have n0_ := Aside0.mk (blk_below (g := gb236) (o := .cells #[.int .i64 t230, .int .i64 t231, .int .i64 t232, .bool t233, .int .i64 t234, .bool t235] 26 (0, 0)) (by (with_reducible repeat (first | refine blk_drewN ?_ _ | refine blk_drew ?_ | refine blk_alloc ?_ _)); exact BK236.out) hb); have n1_ := Aside0.mk (blk_below (g := gb246) (o := .cells #[.int .i64 t239, .int .i64 t240, .int .i64 t241, .bool t242, .int .i64 t243, .bool t244] 26 (0, 0)) (by (with_reducible repeat (first | refine blk_drewN ?_ _ | refine blk_drew ?_ | refine blk_alloc ?_ _)); exact BK246.out) hb); have n2_ := Aside0.mk (below_step (by repeat (first | (with_reducible first | exact HB.out | apply below_alloc | apply pw_below_drewN | apply below_drew1 | refine below_set ?_ GE236.out | refine below_set ?_ GE246.out) | exact HB.out)) hb); clear BK236; clear BK246; clear HB; have BK236 := n0_; have BK246 := n1_; have HB := n2_; clear n0_ n1_ n2_; (try clear hb); (try clear hb2); (try clear hk); (try clear hi); have hcz81_0 : w80.cell? ⟨gb236, 0, none⟩ = some (.int .i64 t230) := (blk_cell BK236.out 0).trans rfl; have hcz81_1 : w80.cell? ⟨gb236, 1, none⟩ = some (.int .i64 t231) := (blk_cell BK236.out 1).trans rfl; have hcz81_2 : w80.cell? ⟨gb236, 2, none⟩ = some (.int .i64 t232) := (blk_cell BK236.out 2).trans rfl; have hcz81_3 : w80.cell? ⟨gb236, 3, none⟩ = some (.bool t233) := (blk_cell BK236.out 3).trans rfl; have hcz81_4 : w80.cell? ⟨gb236, 4, none⟩ = some (.int .i64 t234) := (blk_cell BK236.out 4).trans rfl; have hcz81_5 : w80.cell? ⟨gb236, 5, none⟩ = some (.bool t235) := (blk_cell BK236.out 5).trans rfl; have hfz81_0 := blk_frozen BK236.out 0; have hfz81_1 := blk_frozen BK236.out 1; have hfz81_2 := blk_frozen BK236.out 2; have hfz81_3 := blk_frozen BK236.out 3; have hfz81_4 := blk_frozen BK236.out 4; have hfz81_5 := blk_frozen BK236.out 5) | ((with_reducible refine gate_callee (f := 17) rfl ?_); refine goesL_ (some 86) rfl rfl Tryd.func17 (by kernel_rfl) rfl #[.agg #[.int .i64 t230, .int .i64 t231, .int .i64 t232, .bool t233, .int .i64 t234, .bool t235]] rfl (by (try simp only [List.map_toArray, List.map_cons, List.map_nil]); first | done | rfl | (simp only [List.length_drop, List.length_take]; rfl)) ?_; (with_reducible refine (impl_JobOk.calls t230 t231 t232 t233 t234 t235 true _ A64.out).mono ?_); rintro e w82 ⟨rfl, hb⟩; refine ⟨_, rfl, ?_⟩; have n0_ := Aside0.mk (blk_below (g := gb236) (o := .cells #[.int .i64 t230, .int .i64 t231, .int .i64 t232, .bool t233, .int .i64 t234, .bool t235] 26 (0, 0)) (by (with_reducible repeat (first | refine blk_drewN ?_ _ | refine blk_drew ?_ | refine blk_alloc ?_ _)); exact BK236.out) hb); have n1_ := Aside0.mk (blk_below (g := gb246) (o := .cells #[.int .i64 t239, .int .i64 t240, .int .i64 t241, .bool t242, .int .i64 t243, .bool t244] 26 (0, 0)) (by (with_reducible repeat (first | refine blk_drewN ?_ _ | refine blk_drew ?_ | refine blk_alloc ?_ _)); exact BK246.out) hb); have n2_ := Aside0.mk (below_step (by repeat (first | (with_reducible first | exact HB.out | apply below_alloc | apply pw_below_drewN | apply below_drew1 | refine below_set ?_ GE236.out | refine below_set ?_ GE246.out) | exact HB.out)) hb); clear BK236; clear BK246; clear HB; have BK236 := n0_; have BK246 := n1_; have HB := n2_; clear n0_ n1_ n2_; (try clear hb); (try clear hb2); (try clear hk); (try clear hi); have hcz83_0 : w82.cell? ⟨gb246, 0, none⟩ = some (.int .i64 t239) := (blk_cell BK246.out 0).trans rfl; have hcz83_1 : w82.cell? ⟨gb246, 1, none⟩ = some (.int .i64 t240) := (blk_cell BK246.out 1).trans rfl; have hcz83_2 : w82.cell? ⟨gb246, 2, none⟩ = some (.int .i64 t241) := (blk_cell BK246.out 2).trans rfl; have hcz83_3 : w82.cell? ⟨gb246, 3, none⟩ = some (.bool t242) := (blk_cell BK246.out 3).trans rfl; have hcz83_4 : w82.cell? ⟨gb246, 4, none⟩ = some (.int .i64 t243) := (blk_cell BK246.out 4).trans rfl; have hcz83_5 : w82.cell? ⟨gb246, 5, none⟩ = some (.bool t244) := (blk_cell BK246.out 5).trans rfl; have hfz83_0 := blk_frozen BK246.out 0; have hfz83_1 := blk_frozen BK246.out 1; have hfz83_2 := blk_frozen BK246.out 2; have hfz83_3 := blk_frozen BK246.out 3; have hfz83_4 := blk_frozen BK246.out 4; have hfz83_5 := blk_frozen BK246.out 5; have hcz84_0 : w82.cell? ⟨gb236, 0, none⟩ = some (.int .i64 t230) := (blk_cell BK236.out 0).trans rfl; have hcz84_1 : w82.cell? ⟨gb236, 1, none⟩ = some (.int .i64 t231) := (blk_cell BK236.out 1).trans rfl; have hcz84_2 : w82.cell? ⟨gb236, 2, none⟩ = some (.int .i64 t232) := (blk_cell BK236.out 2).trans rfl; have hcz84_3 : w82.cell? ⟨gb236, 3, none⟩ = some (.bool t233) := (blk_cell BK236.out 3).trans rfl; have hcz84_4 : w82.cell? ⟨gb236, 4, none⟩ = some (.int .i64 t234) := (blk_cell BK236.out 4).trans rfl; have hcz84_5 : w82.cell? ⟨gb236, 5, none⟩ = some (.bool t235) := (blk_cell BK236.out 5).trans rfl; have hfz84_0 := blk_frozen BK236.out 0; have hfz84_1 := blk_frozen BK236.out 1; have hfz84_2 := blk_frozen BK236.out 2; have hfz84_3 := blk_frozen BK236.out 3; have hfz84_4 := blk_frozen BK236.out 4; have hfz84_5 := blk_frozen BK236.out 5))
                            go_ret
                            exact ⟨by first | rfl | (simp [errW_none, errW_some] <;> rfl) | (simp [*, errW_none, errW_some] <;> rfl), by repeat (first | (with_reducible first | exact HB.out | apply below_alloc | apply pw_below_drewN | apply below_drew1 | refine below_set ?_ GE236.out | refine below_set ?_ GE246.out) | exact HB.out)⟩
                        · rw [if_neg c69] at H
                          have c69b0 : (x9_1 == (wrap64 (t232 * t231))) = false := beq_eq_false_iff_ne.mpr c69
                          have c69b1 : (x9_1 != (wrap64 (t232 * t231))) = true := bne_iff_ne.mpr c69
                          obtain rfl := Option.some.inj H
                          have hnb85 := NB236_246.out
                          have hnc85 := NB246_236.out
                          have hcz86_0 : wr.cell? ⟨gb236, 0, none⟩ = some (.int .i64 t230) := (blk_cell BK236.out 0).trans rfl
                          have hcz86_1 : wr.cell? ⟨gb236, 1, none⟩ = some (.int .i64 t231) := (blk_cell BK236.out 1).trans rfl
                          have hcz86_2 : wr.cell? ⟨gb236, 2, none⟩ = some (.int .i64 t232) := (blk_cell BK236.out 2).trans rfl
                          have hcz86_3 : wr.cell? ⟨gb236, 3, none⟩ = some (.bool t233) := (blk_cell BK236.out 3).trans rfl
                          have hcz86_4 : wr.cell? ⟨gb236, 4, none⟩ = some (.int .i64 t234) := (blk_cell BK236.out 4).trans rfl
                          have hcz86_5 : wr.cell? ⟨gb236, 5, none⟩ = some (.bool t235) := (blk_cell BK236.out 5).trans rfl
                          have hfz86_0 := blk_frozen BK236.out 0
                          have hfz86_1 := blk_frozen BK236.out 1
                          have hfz86_2 := blk_frozen BK236.out 2
                          have hfz86_3 := blk_frozen BK236.out 3
                          have hfz86_4 := blk_frozen BK236.out 4
                          have hfz86_5 := blk_frozen BK236.out 5
                          go_wp2_with (first | ((with_reducible refine gate_callee (f := 15) rfl ?_); refine goesL_ (some 82) rfl rfl Tryd.func15 (by kernel_rfl) rfl #[.agg #[.int .i64 t230, .int .i64 t231, .int .i64 t232, .bool t233, .int .i64 t234, .bool t235], .int .i64 t247] rfl (by (try simp only [List.map_toArray, List.map_cons, List.map_nil]); first | done | rfl | (simp only [List.length_drop, List.length_take]; rfl)) ?_; (with_reducible refine (impl_PageOfSheet.calls k1 t230 t231 t232 t233 t234 t235 t247 t248 t249 _ A63.out).mono ?_); rintro e w87 ⟨rfl, hb⟩; refine ⟨_, rfl, ?_⟩; have n0_ := Aside0.mk (blk_below (g := gb236) (o := .cells #[.int .i64 t230, .int .i64 t231, .int .i64 t232, .bool t233, .int .i64 t234, .bool t235] 26 (0, 0)) (by (with_reducible repeat (first | refine blk_drewN ?_ _ | refine blk_drew ?_ | refine blk_alloc ?_ _)); exact BK236.out) hb); have n1_ := Aside0.mk (blk_below (g := gb246) (o := .cells #[.int .i64 t239, .int .i64 t240, .int .i64 t241, .bool t242, .int .i64 t243, .bool t244] 26 (0, 0)) (by (with_reducible repeat (first | refine blk_drewN ?_ _ | refine blk_drew ?_ | refine blk_alloc ?_ _)); exact BK246.out) hb); have n2_ := Aside0.mk (below_step (by repeat (first | (with_reducible first | exact HB.out | apply below_alloc | apply pw_below_drewN | apply below_drew1 | refine below_set ?_ GE236.out | refine below_set ?_ GE246.out) | exact HB.out)) hb); clear BK236; clear BK246; clear HB; have BK236 := n0_; have BK246 := n1_; have HB := n2_; clear n0_ n1_ n2_; (try clear hb); (try clear hb2); (try clear hk); (try clear hi); have hcz88_0 : w87.cell? ⟨gb236, 0, none⟩ = some (.int .i64 t230) := (blk_cell BK236.out 0).trans rfl; have hcz88_1 : w87.cell? ⟨gb236, 1, none⟩ = some (.int .i64 t231) := (blk_cell BK236.out 1).trans rfl; have hcz88_2 : w87.cell? ⟨gb236, 2, none⟩ = some (.int .i64 t232) := (blk_cell BK236.out 2).trans rfl; have hcz88_3 : w87.cell? ⟨gb236, 3, none⟩ = some (.bool t233) := (blk_cell BK236.out 3).trans rfl; have hcz88_4 : w87.cell? ⟨gb236, 4, none⟩ = some (.int .i64 t234) := (blk_cell BK236.out 4).trans rfl; have hcz88_5 : w87.cell? ⟨gb236, 5, none⟩ = some (.bool t235) := (blk_cell BK236.out 5).trans rfl; have hfz88_0 := blk_frozen BK236.out 0; have hfz88_1 := blk_frozen BK236.out 1; have hfz88_2 := blk_frozen BK236.out 2; have hfz88_3 := blk_frozen BK236.out 3; have hfz88_4 := blk_frozen BK236.out 4; have hfz88_5 := blk_frozen BK236.out 5) | ((with_reducible refine gate_callee (f := 17) rfl ?_); refine goesL_ (some 86) rfl rfl Tryd.func17 (by kernel_rfl) rfl #[.agg #[.int .i64 t230, .int .i64 t231, .int .i64 t232, .bool t233, .int .i64 t234, .bool t235]] rfl (by (try simp only [List.map_toArray, List.map_cons, List.map_nil]); first | done | rfl | (simp only [List.length_drop, List.length_take]; rfl)) ?_; (with_reducible refine (impl_JobOk.calls t230 t231 t232 t233 t234 t235 true _ A64.out).mono ?_); rintro e w89 ⟨rfl, hb⟩; refine ⟨_, rfl, ?_⟩; have n0_ := Aside0.mk (blk_below (g := gb236) (o := .cells #[.int .i64 t230, .int .i64 t231, .int .i64 t232, .bool t233, .int .i64 t234, .bool t235] 26 (0, 0)) (by (with_reducible repeat (first | refine blk_drewN ?_ _ | refine blk_drew ?_ | refine blk_alloc ?_ _)); exact BK236.out) hb); have n1_ := Aside0.mk (blk_below (g := gb246) (o := .cells #[.int .i64 t239, .int .i64 t240, .int .i64 t241, .bool t242, .int .i64 t243, .bool t244] 26 (0, 0)) (by (with_reducible repeat (first | refine blk_drewN ?_ _ | refine blk_drew ?_ | refine blk_alloc ?_ _)); exact BK246.out) hb); have n2_ := Aside0.mk (below_step (by repeat (first | (with_reducible first | exact HB.out | apply below_alloc | apply pw_below_drewN | apply below_drew1 | refine below_set ?_ GE236.out | refine below_set ?_ GE246.out) | exact HB.out)) hb); clear BK236; clear BK246; clear HB; have BK236 := n0_; have BK246 := n1_; have HB := n2_; clear n0_ n1_ n2_; (try clear hb); (try clear hb2); (try clear hk); (try clear hi); have hcz90_0 : w89.cell? ⟨gb246, 0, none⟩ = some (.int .i64 t239) := (blk_cell BK246.out 0).trans rfl; have hcz90_1 : w89.cell? ⟨gb246, 1, none⟩ = some (.int .i64 t240) := (blk_cell BK246.out 1).trans rfl; have hcz90_2 : w89.cell? ⟨gb246, 2, none⟩ = some (.int .i64 t241) := (blk_cell BK246.out 2).trans rfl; have hcz90_3 : w89.cell? ⟨gb246, 3, none⟩ = some (.bool t242) := (blk_cell BK246.out 3).trans rfl; have hcz90_4 : w89.cell? ⟨gb246, 4, none⟩ = some (.int .i64 t243) := (blk_cell BK246.out 4).trans rfl; have hcz90_5 : w89.cell? ⟨gb246, 5, none⟩ = some (.bool t244) := (blk_cell BK246.out 5).trans rfl; have hfz90_0 := blk_frozen BK246.out 0; have hfz90_1 := blk_frozen BK246.out 1; have hfz90_2 := blk_frozen BK246.out 2; have hfz90_3 := blk_frozen BK246.out 3; have hfz90_4 := blk_frozen BK246.out 4; have hfz90_5 := blk_frozen BK246.out 5; have hcz91_0 : w89.cell? ⟨gb236, 0, none⟩ = some (.int .i64 t230) := (blk_cell BK236.out 0).trans rfl; have hcz91_1 : w89.cell? ⟨gb236, 1, none⟩ = some (.int .i64 t231) := (blk_cell BK236.out 1).trans rfl; have hcz91_2 : w89.cell? ⟨gb236, 2, none⟩ = some (.int .i64 t232) := (blk_cell BK236.out 2).trans rfl; have hcz91_3 : w89.cell? ⟨gb236, 3, none⟩ = some (.bool t233) := (blk_cell BK236.out 3).trans rfl; have hcz91_4 : w89.cell? ⟨gb236, 4, none⟩ = some (.int .i64 t234) := (blk_cell BK236.out 4).trans rfl; have hcz91_5 : w89.cell? ⟨gb236, 5, none⟩ = some (.bool t235) := (blk_cell BK236.out 5).trans rfl; have hfz91_0 := blk_frozen BK236.out 0; have hfz91_1 := blk_frozen BK236.out 1; have hfz91_2 := blk_frozen BK236.out 2; have hfz91_3 := blk_frozen BK236.out 3; have hfz91_4 := blk_frozen BK236.out 4; have hfz91_5 := blk_frozen BK236.out 5))
                          go_ret
                          exact ⟨by first | rfl | (simp [errW_none, errW_some] <;> rfl) | (simp [*, errW_none, errW_some] <;> rfl), by repeat (first | (with_reducible first | exact HB.out | apply below_alloc | apply pw_below_drewN | apply below_drew1 | refine below_set ?_ GE236.out | refine below_set ?_ GE246.out) | exact HB.out)⟩
                      · rw [if_neg c68] at H
                        have c68b0 : (t239 == t230 && (t240 == t231 && (t241 == t232 && (t242 == t233 && (t243 == t234 && (t244 == t235)))))) = false := by simpa using c68
                        (try (have c68b1 : decide (t239 = t230 && (t240 == t231 && (t241 == t232 && (t242 == t233 && (t243 == t234 && (t244 == t235)))))) = false := by simpa using c68))
                        (try (have c68b2 : (t239 == t230 && (t240 == t231 && (t241 == t232 && (t242 == t233 && (t243 == t234 && (t244 == t235)))))) = false := by simpa using c68))
                        (try (have c68b3 : ¬ (t239 = t230 && (t240 == t231 && (t241 == t232 && (t242 == t233 && (t243 == t234 && (t244 == t235)))))) := by simpa using c68))
                        clear c68
                        obtain rfl := Option.some.inj H
                        have hnb92 := NB236_246.out
                        have hnc92 := NB246_236.out
                        have hcz93_0 : wr.cell? ⟨gb236, 0, none⟩ = some (.int .i64 t230) := (blk_cell BK236.out 0).trans rfl
                        have hcz93_1 : wr.cell? ⟨gb236, 1, none⟩ = some (.int .i64 t231) := (blk_cell BK236.out 1).trans rfl
                        have hcz93_2 : wr.cell? ⟨gb236, 2, none⟩ = some (.int .i64 t232) := (blk_cell BK236.out 2).trans rfl
                        have hcz93_3 : wr.cell? ⟨gb236, 3, none⟩ = some (.bool t233) := (blk_cell BK236.out 3).trans rfl
                        have hcz93_4 : wr.cell? ⟨gb236, 4, none⟩ = some (.int .i64 t234) := (blk_cell BK236.out 4).trans rfl
                        have hcz93_5 : wr.cell? ⟨gb236, 5, none⟩ = some (.bool t235) := (blk_cell BK236.out 5).trans rfl
                        have hfz93_0 := blk_frozen BK236.out 0
                        have hfz93_1 := blk_frozen BK236.out 1
                        have hfz93_2 := blk_frozen BK236.out 2
                        have hfz93_3 := blk_frozen BK236.out 3
                        have hfz93_4 := blk_frozen BK236.out 4
                        have hfz93_5 := blk_frozen BK236.out 5
                        go_wp2_with (first | ((with_reducible refine gate_callee (f := 15) rfl ?_); refine goesL_ (some 82) rfl rfl Tryd.func15 (by kernel_rfl) rfl #[.agg #[.int .i64 t230, .int .i64 t231, .int .i64 t232, .bool t233, .int .i64 t234, .bool t235], .int .i64 t247] rfl (by (try simp only [List.map_toArray, List.map_cons, List.map_nil]); first | done | rfl | (simp only [List.length_drop, List.length_take]; rfl)) ?_; (with_reducible refine (impl_PageOfSheet.calls k1 t230 t231 t232 t233 t234 t235 t247 t248 t249 _ A63.out).mono ?_); rintro e w94 ⟨rfl, hb⟩; refine ⟨_, rfl, ?_⟩; have n0_ := Aside0.mk (blk_below (g := gb236) (o := .cells #[.int .i64 t230, .int .i64 t231, .int .i64 t232, .bool t233, .int .i64 t234, .bool t235] 26 (0, 0)) (by (with_reducible repeat (first | refine blk_drewN ?_ _ | refine blk_drew ?_ | refine blk_alloc ?_ _)); exact BK236.out) hb); have n1_ := Aside0.mk (blk_below (g := gb246) (o := .cells #[.int .i64 t239, .int .i64 t240, .int .i64 t241, .bool t242, .int .i64 t243, .bool t244] 26 (0, 0)) (by (with_reducible repeat (first | refine blk_drewN ?_ _ | refine blk_drew ?_ | refine blk_alloc ?_ _)); exact BK246.out) hb); have n2_ := Aside0.mk (below_step (by repeat (first | (with_reducible first | exact HB.out | apply below_alloc | apply pw_below_drewN | apply below_drew1 | refine below_set ?_ GE236.out | refine below_set ?_ GE246.out) | exact HB.out)) hb); clear BK236; clear BK246; clear HB; have BK236 := n0_; have BK246 := n1_; have HB := n2_; clear n0_ n1_ n2_; (try clear hb); (try clear hb2); (try clear hk); (try clear hi); have hcz95_0 : w94.cell? ⟨gb236, 0, none⟩ = some (.int .i64 t230) := (blk_cell BK236.out 0).trans rfl; have hcz95_1 : w94.cell? ⟨gb236, 1, none⟩ = some (.int .i64 t231) := (blk_cell BK236.out 1).trans rfl; have hcz95_2 : w94.cell? ⟨gb236, 2, none⟩ = some (.int .i64 t232) := (blk_cell BK236.out 2).trans rfl; have hcz95_3 : w94.cell? ⟨gb236, 3, none⟩ = some (.bool t233) := (blk_cell BK236.out 3).trans rfl; have hcz95_4 : w94.cell? ⟨gb236, 4, none⟩ = some (.int .i64 t234) := (blk_cell BK236.out 4).trans rfl; have hcz95_5 : w94.cell? ⟨gb236, 5, none⟩ = some (.bool t235) := (blk_cell BK236.out 5).trans rfl; have hfz95_0 := blk_frozen BK236.out 0; have hfz95_1 := blk_frozen BK236.out 1; have hfz95_2 := blk_frozen BK236.out 2; have hfz95_3 := blk_frozen BK236.out 3; have hfz95_4 := blk_frozen BK236.out 4; have hfz95_5 := blk_frozen BK236.out 5) | ((with_reducible refine gate_callee (f := 17) rfl ?_); refine goesL_ (some 86) rfl rfl Tryd.func17 (by kernel_rfl) rfl #[.agg #[.int .i64 t230, .int .i64 t231, .int .i64 t232, .bool t233, .int .i64 t234, .bool t235]] rfl (by (try simp only [List.map_toArray, List.map_cons, List.map_nil]); first | done | rfl | (simp only [List.length_drop, List.length_take]; rfl)) ?_; (with_reducible refine (impl_JobOk.calls t230 t231 t232 t233 t234 t235 true _ A64.out).mono ?_); rintro e w96 ⟨rfl, hb⟩; refine ⟨_, rfl, ?_⟩; have n0_ := Aside0.mk (blk_below (g := gb236) (o := .cells #[.int .i64 t230, .int .i64 t231, .int .i64 t232, .bool t233, .int .i64 t234, .bool t235] 26 (0, 0)) (by (with_reducible repeat (first | refine blk_drewN ?_ _ | refine blk_drew ?_ | refine blk_alloc ?_ _)); exact BK236.out) hb); have n1_ := Aside0.mk (blk_below (g := gb246) (o := .cells #[.int .i64 t239, .int .i64 t240, .int .i64 t241, .bool t242, .int .i64 t243, .bool t244] 26 (0, 0)) (by (with_reducible repeat (first | refine blk_drewN ?_ _ | refine blk_drew ?_ | refine blk_alloc ?_ _)); exact BK246.out) hb); have n2_ := Aside0.mk (below_step (by repeat (first | (with_reducible first | exact HB.out | apply below_alloc | apply pw_below_drewN | apply below_drew1 | refine below_set ?_ GE236.out | refine below_set ?_ GE246.out) | exact HB.out)) hb); clear BK236; clear BK246; clear HB; have BK236 := n0_; have BK246 := n1_; have HB := n2_; clear n0_ n1_ n2_; (try clear hb); (try clear hb2); (try clear hk); (try clear hi); have hcz97_0 : w96.cell? ⟨gb246, 0, none⟩ = some (.int .i64 t239) := (blk_cell BK246.out 0).trans rfl; have hcz97_1 : w96.cell? ⟨gb246, 1, none⟩ = some (.int .i64 t240) := (blk_cell BK246.out 1).trans rfl; have hcz97_2 : w96.cell? ⟨gb246, 2, none⟩ = some (.int .i64 t241) := (blk_cell BK246.out 2).trans rfl; have hcz97_3 : w96.cell? ⟨gb246, 3, none⟩ = some (.bool t242) := (blk_cell BK246.out 3).trans rfl; have hcz97_4 : w96.cell? ⟨gb246, 4, none⟩ = some (.int .i64 t243) := (blk_cell BK246.out 4).trans rfl; have hcz97_5 : w96.cell? ⟨gb246, 5, none⟩ = some (.bool t244) := (blk_cell BK246.out 5).trans rfl; have hfz97_0 := blk_frozen BK246.out 0; have hfz97_1 := blk_frozen BK246.out 1; have hfz97_2 := blk_frozen BK246.out 2; have hfz97_3 := blk_frozen BK246.out 3; have hfz97_4 := blk_frozen BK246.out 4; have hfz97_5 := blk_frozen BK246.out 5; have hcz98_0 : w96.cell? ⟨gb236, 0, none⟩ = some (.int .i64 t230) := (blk_cell BK236.out 0).trans rfl; have hcz98_1 : w96.cell? ⟨gb236, 1, none⟩ = some (.int .i64 t231) := (blk_cell BK236.out 1).trans rfl; have hcz98_2 : w96.cell? ⟨gb236, 2, none⟩ = some (.int .i64 t232) := (blk_cell BK236.out 2).trans rfl; have hcz98_3 : w96.cell? ⟨gb236, 3, none⟩ = some (.bool t233) := (blk_cell BK236.out 3).trans rfl; have hcz98_4 : w96.cell? ⟨gb236, 4, none⟩ = some (.int .i64 t234) := (blk_cell BK236.out 4).trans rfl; have hcz98_5 : w96.cell? ⟨gb236, 5, none⟩ = some (.bool t235) := (blk_cell BK236.out 5).trans rfl; have hfz98_0 := blk_frozen BK236.out 0; have hfz98_1 := blk_frozen BK236.out 1; have hfz98_2 := blk_frozen BK236.out 2; have hfz98_3 := blk_frozen BK236.out 3; have hfz98_4 := blk_frozen BK236.out 4; have hfz98_5 := blk_frozen BK236.out 5))
                        go_ret
                        exact ⟨by first | rfl | (simp [errW_none, errW_some] <;> rfl) | (simp [*, errW_none, errW_some] <;> rfl), by repeat (first | (with_reducible first | exact HB.out | apply below_alloc | apply pw_below_drewN | apply below_drew1 | refine below_set ?_ GE236.out | refine below_set ?_ GE246.out) | exact HB.out)⟩
                    · replace c67 := Bool.eq_false_iff.mpr c67
                      subst c67
                      have H1 : (some false) = some r := by rw [if_neg (show ¬ (false = true) by decide)] at H; exact H
                      clear H
                      have H := H1
                      clear H1
                      obtain rfl := Option.some.inj H
                      have hnb99 := NB236_246.out
                      have hnc99 := NB246_236.out
                      have hcz100_0 : wr.cell? ⟨gb236, 0, none⟩ = some (.int .i64 t230) := (blk_cell BK236.out 0).trans rfl
                      have hcz100_1 : wr.cell? ⟨gb236, 1, none⟩ = some (.int .i64 t231) := (blk_cell BK236.out 1).trans rfl
                      have hcz100_2 : wr.cell? ⟨gb236, 2, none⟩ = some (.int .i64 t232) := (blk_cell BK236.out 2).trans rfl
                      have hcz100_3 : wr.cell? ⟨gb236, 3, none⟩ = some (.bool t233) := (blk_cell BK236.out 3).trans rfl
                      have hcz100_4 : wr.cell? ⟨gb236, 4, none⟩ = some (.int .i64 t234) := (blk_cell BK236.out 4).trans rfl
                      have hcz100_5 : wr.cell? ⟨gb236, 5, none⟩ = some (.bool t235) := (blk_cell BK236.out 5).trans rfl
                      have hfz100_0 := blk_frozen BK236.out 0
                      have hfz100_1 := blk_frozen BK236.out 1
                      have hfz100_2 := blk_frozen BK236.out 2
                      have hfz100_3 := blk_frozen BK236.out 3
                      have hfz100_4 := blk_frozen BK236.out 4
                      have hfz100_5 := blk_frozen BK236.out 5
                      go_wp2_with (first | ((with_reducible refine gate_callee (f := 15) rfl ?_); refine goesL_ (some 82) rfl rfl Tryd.func15 (by kernel_rfl) rfl #[.agg #[.int .i64 t230, .int .i64 t231, .int .i64 t232, .bool t233, .int .i64 t234, .bool t235], .int .i64 t247] rfl (by (try simp only [List.map_toArray, List.map_cons, List.map_nil]); first | done | rfl | (simp only [List.length_drop, List.length_take]; rfl)) ?_; (with_reducible refine (impl_PageOfSheet.calls k1 t230 t231 t232 t233 t234 t235 t247 t248 t249 _ A63.out).mono ?_); rintro e w101 ⟨rfl, hb⟩; refine ⟨_, rfl, ?_⟩; have n0_ := Aside0.mk (blk_below (g := gb236) (o := .cells #[.int .i64 t230, .int .i64 t231, .int .i64 t232, .bool t233, .int .i64 t234, .bool t235] 26 (0, 0)) (by (with_reducible repeat (first | refine blk_drewN ?_ _ | refine blk_drew ?_ | refine blk_alloc ?_ _)); exact BK236.out) hb); have n1_ := Aside0.mk (blk_below (g := gb246) (o := .cells #[.int .i64 t239, .int .i64 t240, .int .i64 t241, .bool t242, .int .i64 t243, .bool t244] 26 (0, 0)) (by (with_reducible repeat (first | refine blk_drewN ?_ _ | refine blk_drew ?_ | refine blk_alloc ?_ _)); exact BK246.out) hb); have n2_ := Aside0.mk (below_step (by repeat (first | (with_reducible first | exact HB.out | apply below_alloc | apply pw_below_drewN | apply below_drew1 | refine below_set ?_ GE236.out | refine below_set ?_ GE246.out) | exact HB.out)) hb); clear BK236; clear BK246; clear HB; have BK236 := n0_; have BK246 := n1_; have HB := n2_; clear n0_ n1_ n2_; (try clear hb); (try clear hb2); (try clear hk); (try clear hi); have hcz102_0 : w101.cell? ⟨gb236, 0, none⟩ = some (.int .i64 t230) := (blk_cell BK236.out 0).trans rfl; have hcz102_1 : w101.cell? ⟨gb236, 1, none⟩ = some (.int .i64 t231) := (blk_cell BK236.out 1).trans rfl; have hcz102_2 : w101.cell? ⟨gb236, 2, none⟩ = some (.int .i64 t232) := (blk_cell BK236.out 2).trans rfl; have hcz102_3 : w101.cell? ⟨gb236, 3, none⟩ = some (.bool t233) := (blk_cell BK236.out 3).trans rfl; have hcz102_4 : w101.cell? ⟨gb236, 4, none⟩ = some (.int .i64 t234) := (blk_cell BK236.out 4).trans rfl; have hcz102_5 : w101.cell? ⟨gb236, 5, none⟩ = some (.bool t235) := (blk_cell BK236.out 5).trans rfl; have hfz102_0 := blk_frozen BK236.out 0; have hfz102_1 := blk_frozen BK236.out 1; have hfz102_2 := blk_frozen BK236.out 2; have hfz102_3 := blk_frozen BK236.out 3; have hfz102_4 := blk_frozen BK236.out 4; have hfz102_5 := blk_frozen BK236.out 5) | ((with_reducible refine gate_callee (f := 17) rfl ?_); refine goesL_ (some 86) rfl rfl Tryd.func17 (by kernel_rfl) rfl #[.agg #[.int .i64 t230, .int .i64 t231, .int .i64 t232, .bool t233, .int .i64 t234, .bool t235]] rfl (by (try simp only [List.map_toArray, List.map_cons, List.map_nil]); first | done | rfl | (simp only [List.length_drop, List.length_take]; rfl)) ?_; (with_reducible refine (impl_JobOk.calls t230 t231 t232 t233 t234 t235 true _ A64.out).mono ?_); rintro e w103 ⟨rfl, hb⟩; refine ⟨_, rfl, ?_⟩; have n0_ := Aside0.mk (blk_below (g := gb236) (o := .cells #[.int .i64 t230, .int .i64 t231, .int .i64 t232, .bool t233, .int .i64 t234, .bool t235] 26 (0, 0)) (by (with_reducible repeat (first | refine blk_drewN ?_ _ | refine blk_drew ?_ | refine blk_alloc ?_ _)); exact BK236.out) hb); have n1_ := Aside0.mk (blk_below (g := gb246) (o := .cells #[.int .i64 t239, .int .i64 t240, .int .i64 t241, .bool t242, .int .i64 t243, .bool t244] 26 (0, 0)) (by (with_reducible repeat (first | refine blk_drewN ?_ _ | refine blk_drew ?_ | refine blk_alloc ?_ _)); exact BK246.out) hb); have n2_ := Aside0.mk (below_step (by repeat (first | (with_reducible first | exact HB.out | apply below_alloc | apply pw_below_drewN | apply below_drew1 | refine below_set ?_ GE236.out | refine below_set ?_ GE246.out) | exact HB.out)) hb); clear BK236; clear BK246; clear HB; have BK236 := n0_; have BK246 := n1_; have HB := n2_; clear n0_ n1_ n2_; (try clear hb); (try clear hb2); (try clear hk); (try clear hi)))
                      go_ret
                      exact ⟨by first | rfl | (simp [errW_none, errW_some] <;> rfl) | (simp [*, errW_none, errW_some] <;> rfl), by repeat (first | (with_reducible first | exact HB.out | apply below_alloc | apply pw_below_drewN | apply below_drew1 | refine below_set ?_ GE236.out | refine below_set ?_ GE246.out) | exact HB.out)⟩
                  · replace c66 := Bool.eq_false_iff.mpr c66
                    subst c66
                    have H1 : (some false) = some r := by rw [if_neg (show ¬ (false = true) by decide)] at H; exact H
                    clear H
                    have H := H1
                    clear H1
                    obtain rfl := Option.some.inj H
                    have hnb104 := NB236_246.out
                    have hnc104 := NB246_236.out
                    have hcz105_0 : wr.cell? ⟨gb236, 0, none⟩ = some (.int .i64 t230) := (blk_cell BK236.out 0).trans rfl
                    have hcz105_1 : wr.cell? ⟨gb236, 1, none⟩ = some (.int .i64 t231) := (blk_cell BK236.out 1).trans rfl
                    have hcz105_2 : wr.cell? ⟨gb236, 2, none⟩ = some (.int .i64 t232) := (blk_cell BK236.out 2).trans rfl
                    have hcz105_3 : wr.cell? ⟨gb236, 3, none⟩ = some (.bool t233) := (blk_cell BK236.out 3).trans rfl
                    have hcz105_4 : wr.cell? ⟨gb236, 4, none⟩ = some (.int .i64 t234) := (blk_cell BK236.out 4).trans rfl
                    have hcz105_5 : wr.cell? ⟨gb236, 5, none⟩ = some (.bool t235) := (blk_cell BK236.out 5).trans rfl
                    have hfz105_0 := blk_frozen BK236.out 0
                    have hfz105_1 := blk_frozen BK236.out 1
                    have hfz105_2 := blk_frozen BK236.out 2
                    have hfz105_3 := blk_frozen BK236.out 3
                    have hfz105_4 := blk_frozen BK236.out 4
                    have hfz105_5 := blk_frozen BK236.out 5
                    go_wp2_with (first | ((with_reducible refine gate_callee (f := 15) rfl ?_); refine goesL_ (some 82) rfl rfl Tryd.func15 (by kernel_rfl) rfl #[.agg #[.int .i64 t230, .int .i64 t231, .int .i64 t232, .bool t233, .int .i64 t234, .bool t235], .int .i64 t247] rfl (by (try simp only [List.map_toArray, List.map_cons, List.map_nil]); first | done | rfl | (simp only [List.length_drop, List.length_take]; rfl)) ?_; (with_reducible refine (impl_PageOfSheet.calls k1 t230 t231 t232 t233 t234 t235 t247 t248 t249 _ A63.out).mono ?_); rintro e w106 ⟨rfl, hb⟩; refine ⟨_, rfl, ?_⟩; have n0_ := Aside0.mk (blk_below (g := gb236) (o := .cells #[.int .i64 t230, .int .i64 t231, .int .i64 t232, .bool t233, .int .i64 t234, .bool t235] 26 (0, 0)) (by (with_reducible repeat (first | refine blk_drewN ?_ _ | refine blk_drew ?_ | refine blk_alloc ?_ _)); exact BK236.out) hb); have n1_ := Aside0.mk (blk_below (g := gb246) (o := .cells #[.int .i64 t239, .int .i64 t240, .int .i64 t241, .bool t242, .int .i64 t243, .bool t244] 26 (0, 0)) (by (with_reducible repeat (first | refine blk_drewN ?_ _ | refine blk_drew ?_ | refine blk_alloc ?_ _)); exact BK246.out) hb); have n2_ := Aside0.mk (below_step (by repeat (first | (with_reducible first | exact HB.out | apply below_alloc | apply pw_below_drewN | apply below_drew1 | refine below_set ?_ GE236.out | refine below_set ?_ GE246.out) | exact HB.out)) hb); clear BK236; clear BK246; clear HB; have BK236 := n0_; have BK246 := n1_; have HB := n2_; clear n0_ n1_ n2_; (try clear hb); (try clear hb2); (try clear hk); (try clear hi); have hcz107_0 : w106.cell? ⟨gb236, 0, none⟩ = some (.int .i64 t230) := (blk_cell BK236.out 0).trans rfl; have hcz107_1 : w106.cell? ⟨gb236, 1, none⟩ = some (.int .i64 t231) := (blk_cell BK236.out 1).trans rfl; have hcz107_2 : w106.cell? ⟨gb236, 2, none⟩ = some (.int .i64 t232) := (blk_cell BK236.out 2).trans rfl; have hcz107_3 : w106.cell? ⟨gb236, 3, none⟩ = some (.bool t233) := (blk_cell BK236.out 3).trans rfl; have hcz107_4 : w106.cell? ⟨gb236, 4, none⟩ = some (.int .i64 t234) := (blk_cell BK236.out 4).trans rfl; have hcz107_5 : w106.cell? ⟨gb236, 5, none⟩ = some (.bool t235) := (blk_cell BK236.out 5).trans rfl; have hfz107_0 := blk_frozen BK236.out 0; have hfz107_1 := blk_frozen BK236.out 1; have hfz107_2 := blk_frozen BK236.out 2; have hfz107_3 := blk_frozen BK236.out 3; have hfz107_4 := blk_frozen BK236.out 4; have hfz107_5 := blk_frozen BK236.out 5) | ((with_reducible refine gate_callee (f := 17) rfl ?_); refine goesL_ (some 86) rfl rfl Tryd.func17 (by kernel_rfl) rfl #[.agg #[.int .i64 t230, .int .i64 t231, .int .i64 t232, .bool t233, .int .i64 t234, .bool t235]] rfl (by (try simp only [List.map_toArray, List.map_cons, List.map_nil]); first | done | rfl | (simp only [List.length_drop, List.length_take]; rfl)) ?_; (with_reducible refine (impl_JobOk.calls t230 t231 t232 t233 t234 t235 true _ A64.out).mono ?_); rintro e w108 ⟨rfl, hb⟩; refine ⟨_, rfl, ?_⟩; have n0_ := Aside0.mk (blk_below (g := gb236) (o := .cells #[.int .i64 t230, .int .i64 t231, .int .i64 t232, .bool t233, .int .i64 t234, .bool t235] 26 (0, 0)) (by (with_reducible repeat (first | refine blk_drewN ?_ _ | refine blk_drew ?_ | refine blk_alloc ?_ _)); exact BK236.out) hb); have n1_ := Aside0.mk (blk_below (g := gb246) (o := .cells #[.int .i64 t239, .int .i64 t240, .int .i64 t241, .bool t242, .int .i64 t243, .bool t244] 26 (0, 0)) (by (with_reducible repeat (first | refine blk_drewN ?_ _ | refine blk_drew ?_ | refine blk_alloc ?_ _)); exact BK246.out) hb); have n2_ := Aside0.mk (below_step (by repeat (first | (with_reducible first | exact HB.out | apply below_alloc | apply pw_below_drewN | apply below_drew1 | refine below_set ?_ GE236.out | refine below_set ?_ GE246.out) | exact HB.out)) hb); clear BK236; clear BK246; clear HB; have BK236 := n0_; have BK246 := n1_; have HB := n2_; clear n0_ n1_ n2_; (try clear hb); (try clear hb2); (try clear hk); (try clear hi)))
                    go_ret
                    exact ⟨by first | rfl | (simp [errW_none, errW_some] <;> rfl) | (simp [*, errW_none, errW_some] <;> rfl), by repeat (first | (with_reducible first | exact HB.out | apply below_alloc | apply pw_below_drewN | apply below_drew1 | refine below_set ?_ GE236.out | refine below_set ?_ GE246.out) | exact HB.out)⟩
                · replace c65 := Bool.eq_false_iff.mpr c65
                  subst c65
                  have H1 : (some false) = some r := by rw [if_neg (show ¬ (false = true) by decide)] at H; exact H
                  clear H
                  have H := H1
                  clear H1
                  obtain rfl := Option.some.inj H
                  have hnb109 := NB236_246.out
                  have hnc109 := NB246_236.out
                  have hcz110_0 : wr.cell? ⟨gb236, 0, none⟩ = some (.int .i64 t230) := (blk_cell BK236.out 0).trans rfl
                  have hcz110_1 : wr.cell? ⟨gb236, 1, none⟩ = some (.int .i64 t231) := (blk_cell BK236.out 1).trans rfl
                  have hcz110_2 : wr.cell? ⟨gb236, 2, none⟩ = some (.int .i64 t232) := (blk_cell BK236.out 2).trans rfl
                  have hcz110_3 : wr.cell? ⟨gb236, 3, none⟩ = some (.bool t233) := (blk_cell BK236.out 3).trans rfl
                  have hcz110_4 : wr.cell? ⟨gb236, 4, none⟩ = some (.int .i64 t234) := (blk_cell BK236.out 4).trans rfl
                  have hcz110_5 : wr.cell? ⟨gb236, 5, none⟩ = some (.bool t235) := (blk_cell BK236.out 5).trans rfl
                  have hfz110_0 := blk_frozen BK236.out 0
                  have hfz110_1 := blk_frozen BK236.out 1
                  have hfz110_2 := blk_frozen BK236.out 2
                  have hfz110_3 := blk_frozen BK236.out 3
                  have hfz110_4 := blk_frozen BK236.out 4
                  have hfz110_5 := blk_frozen BK236.out 5
                  go_wp2_with (first | ((with_reducible refine gate_callee (f := 15) rfl ?_); refine goesL_ (some 82) rfl rfl Tryd.func15 (by kernel_rfl) rfl #[.agg #[.int .i64 t230, .int .i64 t231, .int .i64 t232, .bool t233, .int .i64 t234, .bool t235], .int .i64 t247] rfl (by (try simp only [List.map_toArray, List.map_cons, List.map_nil]); first | done | rfl | (simp only [List.length_drop, List.length_take]; rfl)) ?_; (with_reducible refine (impl_PageOfSheet.calls k1 t230 t231 t232 t233 t234 t235 t247 t248 t249 _ A63.out).mono ?_); rintro e w111 ⟨rfl, hb⟩; refine ⟨_, rfl, ?_⟩; have n0_ := Aside0.mk (blk_below (g := gb236) (o := .cells #[.int .i64 t230, .int .i64 t231, .int .i64 t232, .bool t233, .int .i64 t234, .bool t235] 26 (0, 0)) (by (with_reducible repeat (first | refine blk_drewN ?_ _ | refine blk_drew ?_ | refine blk_alloc ?_ _)); exact BK236.out) hb); have n1_ := Aside0.mk (blk_below (g := gb246) (o := .cells #[.int .i64 t239, .int .i64 t240, .int .i64 t241, .bool t242, .int .i64 t243, .bool t244] 26 (0, 0)) (by (with_reducible repeat (first | refine blk_drewN ?_ _ | refine blk_drew ?_ | refine blk_alloc ?_ _)); exact BK246.out) hb); have n2_ := Aside0.mk (below_step (by repeat (first | (with_reducible first | exact HB.out | apply below_alloc | apply pw_below_drewN | apply below_drew1 | refine below_set ?_ GE236.out | refine below_set ?_ GE246.out) | exact HB.out)) hb); clear BK236; clear BK246; clear HB; have BK236 := n0_; have BK246 := n1_; have HB := n2_; clear n0_ n1_ n2_; (try clear hb); (try clear hb2); (try clear hk); (try clear hi); have hcz112_0 : w111.cell? ⟨gb236, 0, none⟩ = some (.int .i64 t230) := (blk_cell BK236.out 0).trans rfl; have hcz112_1 : w111.cell? ⟨gb236, 1, none⟩ = some (.int .i64 t231) := (blk_cell BK236.out 1).trans rfl; have hcz112_2 : w111.cell? ⟨gb236, 2, none⟩ = some (.int .i64 t232) := (blk_cell BK236.out 2).trans rfl; have hcz112_3 : w111.cell? ⟨gb236, 3, none⟩ = some (.bool t233) := (blk_cell BK236.out 3).trans rfl; have hcz112_4 : w111.cell? ⟨gb236, 4, none⟩ = some (.int .i64 t234) := (blk_cell BK236.out 4).trans rfl; have hcz112_5 : w111.cell? ⟨gb236, 5, none⟩ = some (.bool t235) := (blk_cell BK236.out 5).trans rfl; have hfz112_0 := blk_frozen BK236.out 0; have hfz112_1 := blk_frozen BK236.out 1; have hfz112_2 := blk_frozen BK236.out 2; have hfz112_3 := blk_frozen BK236.out 3; have hfz112_4 := blk_frozen BK236.out 4; have hfz112_5 := blk_frozen BK236.out 5) | ((with_reducible refine gate_callee (f := 17) rfl ?_); refine goesL_ (some 86) rfl rfl Tryd.func17 (by kernel_rfl) rfl #[.agg #[.int .i64 t230, .int .i64 t231, .int .i64 t232, .bool t233, .int .i64 t234, .bool t235]] rfl (by (try simp only [List.map_toArray, List.map_cons, List.map_nil]); first | done | rfl | (simp only [List.length_drop, List.length_take]; rfl)) ?_; (with_reducible refine (impl_JobOk.calls t230 t231 t232 t233 t234 t235 false _ A64.out).mono ?_); rintro e w113 ⟨rfl, hb⟩; refine ⟨_, rfl, ?_⟩; have n0_ := Aside0.mk (blk_below (g := gb236) (o := .cells #[.int .i64 t230, .int .i64 t231, .int .i64 t232, .bool t233, .int .i64 t234, .bool t235] 26 (0, 0)) (by (with_reducible repeat (first | refine blk_drewN ?_ _ | refine blk_drew ?_ | refine blk_alloc ?_ _)); exact BK236.out) hb); have n1_ := Aside0.mk (blk_below (g := gb246) (o := .cells #[.int .i64 t239, .int .i64 t240, .int .i64 t241, .bool t242, .int .i64 t243, .bool t244] 26 (0, 0)) (by (with_reducible repeat (first | refine blk_drewN ?_ _ | refine blk_drew ?_ | refine blk_alloc ?_ _)); exact BK246.out) hb); have n2_ := Aside0.mk (below_step (by repeat (first | (with_reducible first | exact HB.out | apply below_alloc | apply pw_below_drewN | apply below_drew1 | refine below_set ?_ GE236.out | refine below_set ?_ GE246.out) | exact HB.out)) hb); clear BK236; clear BK246; clear HB; have BK236 := n0_; have BK246 := n1_; have HB := n2_; clear n0_ n1_ n2_; (try clear hb); (try clear hb2); (try clear hk); (try clear hi)))
                  go_ret
                  exact ⟨by first | rfl | (simp [errW_none, errW_some] <;> rfl) | (simp [*, errW_none, errW_some] <;> rfl), by repeat (first | (with_reducible first | exact HB.out | apply below_alloc | apply pw_below_drewN | apply below_drew1 | refine below_set ?_ GE236.out | refine below_set ?_ GE246.out) | exact HB.out)⟩
      · rw [if_neg c7] at H
        exact absurd H (by simp)
    · rw [if_neg c6] at H
      exact absurd H (by simp)

end Go.Proofs.YtneeokmfpiacoaaDoor.PFnJobs
-- tabs
