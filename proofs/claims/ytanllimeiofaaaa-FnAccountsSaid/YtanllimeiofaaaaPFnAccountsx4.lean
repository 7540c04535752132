/- Written by a program of this session (a turned copy of the kit's printer): what each Go function answers, and that it does. -/
import Derived.Test.YtanllimeiofaaaaPFnAccountsx0
import Derived.Test.YtanllimeiofaaaaPFnAccountsx1
import Derived.Test.YtanllimeiofaaaaPFnAccountsx2
import Derived.Test.YtanllimeiofaaaaPFnAccountsx3
namespace Go.Proofs.Ytanllimeiofaaaa.PFnAccounts
open Go.RowKit Go.Proofs.YtanllimeiofaaaaW.PrintWords Go.Proofs.YtanllimeiofaaaaW.PrintLast Go.Proofs.YtanllimeiofaaaaW.PrintMore
attribute [local go_sem] Go.Proofs.Ytanllimeiofaaaa.Cells.cell_set_at max2_int min2_int max_two min_two max_three min_three max_four min_four   -- for this text's walks alone
set_option linter.unusedVariables false
set_option linter.unusedSimpArgs false

attribute [local go_sem high] eqA25
/-! ### laws_FnAccounts: function 3 -/
def laws_FnAccounts.j0 : Nat → Int → Int → Bool → Bool → Int → Int → Int → Int → Int → Int → Option (Bool)
 | 0, _, _, _, _, _, _, _, _, _, _ => none
 | k + 1, x5, x6, x8, x43, x183000, x183001, x183002, x193000, x193001, x193002 => if x43 = true then (some false) else (if x8 = true then ((impl_Settle.f x193000 x193001 x193002 x5 x6).bind fun bt195 => (if bt195.2.2.2 = true then ((impl_AccountOk.f x193000 x193001 x193002).bind fun t200 => (if t200 = true then ((impl_AccountOk.f bt195.1 bt195.2.1 bt195.2.2.1).bind fun t201 => (if t201 = true then ((impl_FreeSheets.f x193000 x193001 x193002).bind fun t202 => ((impl_FreeSheets.f x183000 x183001 x183002).bind fun t203 => (if t202 = (wrap64 (t203 - x5)) then ((impl_FreeSheets.f bt195.1 bt195.2.1 bt195.2.2.1).bind fun t204 => ((impl_FreeSheets.f x183000 x183001 x183002).bind fun t205 => (if t204 = (wrap64 (t205 - x6)) then (if bt195.2.1 = x183001 then (some (bt195.2.2.1 == (wrap64 (x183002 + x6)))) else (some false)) else (some false)))) else (some false)))) else (some false))) else (some false))) else (some false))) else (some (x193000 == x183000 && (x193001 == x183001 && (x193002 == x183002)))))
def laws_FnAccounts.f (k : Nat) (l0 : List Int) : Option (Bool) := (laws_big.f l0).bind fun t178 => (if t178 = true then (some true) else ((spec_DrawAccount.f k l0).bind fun bt179 => ((spec_DrawPlaces.f k l0).bind fun t183 => (if 0 < (t183.length : Int) then (if 1 < (t183.length : Int) then (if (wrap64 ((Int.tmod (rd t183 0) 60) + 1)) = 0 then (none) else ((impl_Reserve.f k bt179.1 bt179.2.1 bt179.2.2 (Int.tmod (rd t183 0) 60)).bind fun bt188 => ((impl_AccountOk.f bt179.1 bt179.2.1 bt179.2.2).bind fun t193 => (if t193 = true then ((impl_FreeSheets.f bt179.1 bt179.2.1 bt179.2.2).bind fun t194 => (laws_FnAccounts.j0 k (Int.tmod (rd t183 0) 60) (Int.tmod (rd t183 1) (wrap64 ((Int.tmod (rd t183 0) 60) + 1))) bt188.2.2.2 (bt188.2.2.2 != (decide (t194 ≥ (Int.tmod (rd t183 0) 60)))) bt179.1 bt179.2.1 bt179.2.2 bt188.1 bt188.2.1 bt188.2.2.1)) else (laws_FnAccounts.j0 k (Int.tmod (rd t183 0) 60) (Int.tmod (rd t183 1) (wrap64 ((Int.tmod (rd t183 0) 60) + 1))) bt188.2.2.2 true bt179.1 bt179.2.1 bt179.2.2 bt188.1 bt188.2.1 bt188.2.2.1))))) else (none)) else (none)))))
theorem laws_FnAccounts.mono_l : ∀ k, (∀ y0 y1 y2 y3 y4 y5 y6 y7 y8 y9, LeO (laws_FnAccounts.j0 k y0 y1 y2 y3 y4 y5 y6 y7 y8 y9) (laws_FnAccounts.j0 (k + 1) y0 y1 y2 y3 y4 y5 y6 y7 y8 y9))
 | 0 => fun _ _ _ _ _ _ _ _ _ _ r h => by simp [laws_FnAccounts.j0] at h
 | k + 1 => by
  have ih0 := laws_FnAccounts.mono_l k
  ·intro y0 y1 y2 y3 y4 y5 y6 y7 y8 y9
   unfold laws_FnAccounts.j0
   repeat' first
   | (with_reducible exact ih0 _ _ _ _ _ _ _ _ _ _)
   | (with_reducible exact impl_Reserve.mono _ _ _ _ _)
   | (with_reducible exact spec_DrawAccount.mono _ _)
   | (with_reducible exact spec_DrawPlaces.mono _ _)
   | (with_reducible exact LeO.refl _)
   | (with_reducible exact LeO.none _)
   | (with_reducible refine LeO.ite ?_ ?_)
   | (with_reducible refine LeO.bind ?_ (fun _ => ?_))
   | exact ih0 _ _ _ _ _ _ _ _ _ _
   | exact impl_Reserve.mono _ _ _ _ _
   | exact spec_DrawAccount.mono _ _
   | exact spec_DrawPlaces.mono _ _
   | exact LeO.none _
   | refine LeO.ite ?_ ?_
   | refine LeO.bind ?_ (fun _ => ?_)
theorem laws_FnAccounts.mono : ∀ a0 k, LeO (laws_FnAccounts.f k a0) (laws_FnAccounts.f (k + 1) a0) := by
 intro a0 k
 have ih0 := laws_FnAccounts.mono_l k
 unfold laws_FnAccounts.f
 repeat' first
   | (with_reducible exact ih0 _ _ _ _ _ _ _ _ _ _)
   | (with_reducible exact impl_Reserve.mono _ _ _ _ _)
   | (with_reducible exact spec_DrawAccount.mono _ _)
   | (with_reducible exact spec_DrawPlaces.mono _ _)
   | (with_reducible exact LeO.refl _)
   | (with_reducible exact LeO.none _)
   | (with_reducible refine LeO.ite ?_ ?_)
   | (with_reducible refine LeO.bind ?_ (fun _ => ?_))
   | exact ih0 _ _ _ _ _ _ _ _ _ _
   | exact impl_Reserve.mono _ _ _ _ _
   | exact spec_DrawAccount.mono _ _
   | exact spec_DrawPlaces.mono _ _
   | exact LeO.none _
   | refine LeO.ite ?_ ?_
   | refine LeO.bind ?_ (fun _ => ?_)
def laws_FnAccounts.T13 : Bool × List (List Nat × List Nat) := (true, [([], []), ([0], [0]), ([1], [1]), ([2, 1, 1], [1, 2]), ([1, 3], [1, 3]), ([4, 3], [4]), ([5], [5]), ([6, 5, 5], [5, 6]), ([5, 7], [5, 7]), ([8, 7], [8]), ([9], [9]), ([10, 9, 9], [9, 10]), ([9], [9]), ([12, 11, 9], [9, 12]), ([9], [9]), ([13, 14, 9], [9, 13, 14]), ([11, 15, 9], [9, 11, 15]), ([9, 16], [9, 16]), ([17, 13], [17]), ([18], [18]), ([19, 18, 18], [18, 19]), ([18], [18]), ([21, 20, 18], [18, 21]), ([18], [18]), ([22, 23, 18], [18, 22, 23]), ([20, 24, 18], [18, 20, 24]), ([18, 25], [18, 25]), ([26, 22], [26]), ([27], [27]), ([28, 27], [27, 28]), ([27], [27]), ([30, 27], [27, 30]), ([29, 31, 27], [27, 29, 31]), ([27, 32], [27, 32]), ([33, 27], [33]), ([34], [34]), ([35, 34], [34, 35]), ([34], [34]), ([37, 34], [34, 37]), ([34], [34]), ([38, 39, 34], [34, 38, 39]), ([36, 40, 34], [34, 36, 40]), ([34, 41], [34, 41]), ([42, 34, 0, 1, 2, 3, 4, 5, 6, 7, 8, 9, 10, 11, 12, 13, 14, 15, 16, 17, 18, 19, 20, 21, 22, 23, 24, 25, 26, 27, 28, 29, 30, 31, 32, 33, 34, 35, 36, 37, 38, 39, 40, 41, 42], [42])])
def laws_FnAccounts.B13 : List Nat := [0, 1, 3, 7, 15, 31, 63, 127, 255, 511, 1023, 2047, 1023, 8191, 1023, 32767, 65535, 131071, 262143, 524287, 1048575, 524287, 4194303, 524287, 16777215, 33554431, 67108863, 134217727, 268435455, 536870911, 268435455, 1342177279, 4294967295, 8589934591, 17179869183, 34359738367, 68719476735, 34359738367, 171798691839, 34359738367, 996432412671, 2199023255551, 4398046511103, 8796093022207]
theorem laws_FnAccounts.tab13 : rtab .any (opsOf Try.f3 13) = laws_FnAccounts.T13 := by kernel_rfl
theorem laws_FnAccounts.bits13 : waitsOk laws_FnAccounts.T13.2 laws_FnAccounts.B13 = true := by kernel_rfl
set_option maxHeartbeats 8000000 in
set_option maxRecDepth 100000 in
theorem laws_FnAccounts.calls (k : Nat) (A0 : Option Addr) (c0 : Nat) (l0 : List Int) (r : Bool) (w : World) (hr0 : Kd.C (Kd.int .u8) w A0 l0.length l0) (hc0 : l0.length ≤ c0) (h : laws_FnAccounts.f k l0 = some r) :
  Calls Try.prog 3 #[.slice A0 l0.length c0] w fun e w' => e = .returned (.bool r) ∧ Below w.heap.size w w' := by
 have hu25 := Try.underlying25
 have HR0 := Am hr0
 have HC0 := Am hc0
 clear hr0 hc0
 have HB := Am (Below.refl w.heap.size w)
 have H : ((laws_big.f l0).bind fun t178 => (if t178 = true then (some true) else ((spec_DrawAccount.f k l0).bind fun bt179 => ((spec_DrawPlaces.f k l0).bind fun t183 => (if 0 < (t183.length : Int) then (if 1 < (t183.length : Int) then (if (wrap64 ((Int.tmod (rd t183 0) 60) + 1)) = 0 then (none) else ((impl_Reserve.f k bt179.1 bt179.2.1 bt179.2.2 (Int.tmod (rd t183 0) 60)).bind fun bt188 => ((impl_AccountOk.f bt179.1 bt179.2.1 bt179.2.2).bind fun t193 => (if t193 = true then ((impl_FreeSheets.f bt179.1 bt179.2.1 bt179.2.2).bind fun t194 => (laws_FnAccounts.j0 k (Int.tmod (rd t183 0) 60) (Int.tmod (rd t183 1) (wrap64 ((Int.tmod (rd t183 0) 60) + 1))) bt188.2.2.2 (bt188.2.2.2 != (decide (t194 ≥ (Int.tmod (rd t183 0) 60)))) bt179.1 bt179.2.1 bt179.2.2 bt188.1 bt188.2.1 bt188.2.2.1)) else (laws_FnAccounts.j0 k (Int.tmod (rd t183 0) 60) (Int.tmod (rd t183 1) (wrap64 ((Int.tmod (rd t183 0) 60) + 1))) bt188.2.2.2 true bt179.1 bt179.2.1 bt179.2.2 bt188.1 bt188.2.1 bt188.2.2.1))))) else (none)) else (none)))))) = some r := h
 clear h
 replace H := Option.bind_eq_some_iff.mp H
 obtain ⟨t178, A20, H⟩ := H
 replace H : (if t178 = true then (some true) else ((spec_DrawAccount.f k l0).bind fun bt179 => ((spec_DrawPlaces.f k l0).bind fun t183 => (if 0 < (t183.length : Int) then (if 1 < (t183.length : Int) then (if (wrap64 ((Int.tmod (rd t183 0) 60) + 1)) = 0 then (none) else ((impl_Reserve.f k bt179.1 bt179.2.1 bt179.2.2 (Int.tmod (rd t183 0) 60)).bind fun bt188 => ((impl_AccountOk.f bt179.1 bt179.2.1 bt179.2.2).bind fun t193 => (if t193 = true then ((impl_FreeSheets.f bt179.1 bt179.2.1 bt179.2.2).bind fun t194 => (laws_FnAccounts.j0 k (Int.tmod (rd t183 0) 60) (Int.tmod (rd t183 1) (wrap64 ((Int.tmod (rd t183 0) 60) + 1))) bt188.2.2.2 (bt188.2.2.2 != (decide (t194 ≥ (Int.tmod (rd t183 0) 60)))) bt179.1 bt179.2.1 bt179.2.2 bt188.1 bt188.2.1 bt188.2.2.1)) else (laws_FnAccounts.j0 k (Int.tmod (rd t183 0) 60) (Int.tmod (rd t183 1) (wrap64 ((Int.tmod (rd t183 0) 60) + 1))) bt188.2.2.2 true bt179.1 bt179.2.1 bt179.2.2 bt188.1 bt188.2.1 bt188.2.2.1))))) else (none)) else (none))))) = some r := H
 have A2 := Am A20
 clear A20
 by_cases c3 : t178 = true
 ·subst c3
  have H1 : (some true) = some r := by rw [if_pos rfl] at H; exact H
  clear H
  have H := H1
  clear H1
  obtain rfl := Option.some.inj H
  go_enter Try.func3, Try.ntmps3
  go_wp2_with (first | ((with_reducible refine gate_callee (f := 15) rfl ?_); refine goesL_ (some 12) rfl rfl Try.func15 (by kernel_rfl) rfl #[.slice A0 l0.length c0] rfl (by (try simp only [List.map_toArray, List.map_cons, List.map_nil]); first | done | rfl | (simp only [List.length_drop, List.length_take]; rfl)) ?_; (with_reducible refine (laws_big.calls _ _ l0 true _ ?side1 ?side2 A2.out).mono ?_); (case side1 => repeat (first | exact HR0.out | (with_reducible refine Kd.C_alloc ?_ _) | (with_reducible refine Kd.C_drewN ?_ _) | (with_reducible refine Kd.C_drew ?_))); (case side2 => exact HC0.out); rintro e w' ⟨rfl, ⟨nd, rfl⟩⟩; refine ⟨_, rfl, ?_⟩))
  go_ret
  exact ⟨by first | rfl | (simp [errW_none, errW_some] <;> rfl) | (simp [*, errW_none, errW_some] <;> rfl), by repeat (first | (with_reducible first | exact HB.out | apply b5 | apply b4 | apply b6) | exact HB.out)⟩
 ·replace c3 := Bool.eq_false_iff.mpr c3
  subst c3
  have H1 : ((spec_DrawAccount.f k l0).bind fun bt179 => ((spec_DrawPlaces.f k l0).bind fun t183 => (if 0 < (t183.length : Int) then (if 1 < (t183.length : Int) then (if (wrap64 ((Int.tmod (rd t183 0) 60) + 1)) = 0 then (none) else ((impl_Reserve.f k bt179.1 bt179.2.1 bt179.2.2 (Int.tmod (rd t183 0) 60)).bind fun bt188 => ((impl_AccountOk.f bt179.1 bt179.2.1 bt179.2.2).bind fun t193 => (if t193 = true then ((impl_FreeSheets.f bt179.1 bt179.2.1 bt179.2.2).bind fun t194 => (laws_FnAccounts.j0 k (Int.tmod (rd t183 0) 60) (Int.tmod (rd t183 1) (wrap64 ((Int.tmod (rd t183 0) 60) + 1))) bt188.2.2.2 (bt188.2.2.2 != (decide (t194 ≥ (Int.tmod (rd t183 0) 60)))) bt179.1 bt179.2.1 bt179.2.2 bt188.1 bt188.2.1 bt188.2.2.1)) else (laws_FnAccounts.j0 k (Int.tmod (rd t183 0) 60) (Int.tmod (rd t183 1) (wrap64 ((Int.tmod (rd t183 0) 60) + 1))) bt188.2.2.2 true bt179.1 bt179.2.1 bt179.2.2 bt188.1 bt188.2.1 bt188.2.2.1))))) else (none)) else (none)))) = some r := by rw [if_neg (show ¬ (false = true) by decide)] at H; exact H
  clear H
  have H := H1
  clear H1
  replace H := Option.bind_eq_some_iff.mp H
  obtain ⟨⟨t179, t180, t181⟩, A40, H⟩ := H
  replace H : ((spec_DrawPlaces.f k l0).bind fun t183 => (if 0 < (t183.length : Int) then (if 1 < (t183.length : Int) then (if (wrap64 ((Int.tmod (rd t183 0) 60) + 1)) = 0 then (none) else ((impl_Reserve.f k t179 t180 t181 (Int.tmod (rd t183 0) 60)).bind fun bt188 => ((impl_AccountOk.f t179 t180 t181).bind fun t193 => (if t193 = true then ((impl_FreeSheets.f t179 t180 t181).bind fun t194 => (laws_FnAccounts.j0 k (Int.tmod (rd t183 0) 60) (Int.tmod (rd t183 1) (wrap64 ((Int.tmod (rd t183 0) 60) + 1))) bt188.2.2.2 (bt188.2.2.2 != (decide (t194 ≥ (Int.tmod (rd t183 0) 60)))) t179 t180 t181 bt188.1 bt188.2.1 bt188.2.2.1)) else (laws_FnAccounts.j0 k (Int.tmod (rd t183 0) 60) (Int.tmod (rd t183 1) (wrap64 ((Int.tmod (rd t183 0) 60) + 1))) bt188.2.2.2 true t179 t180 t181 bt188.1 bt188.2.1 bt188.2.2.1))))) else (none)) else (none))) = some r := H
  have A4 := Am A40
  clear A40
  replace H := Option.bind_eq_some_iff.mp H
  obtain ⟨t183, A50, H⟩ := H
  replace H : (if 0 < (t183.length : Int) then (if 1 < (t183.length : Int) then (if (wrap64 ((Int.tmod (rd t183 0) 60) + 1)) = 0 then (none) else ((impl_Reserve.f k t179 t180 t181 (Int.tmod (rd t183 0) 60)).bind fun bt188 => ((impl_AccountOk.f t179 t180 t181).bind fun t193 => (if t193 = true then ((impl_FreeSheets.f t179 t180 t181).bind fun t194 => (laws_FnAccounts.j0 k (Int.tmod (rd t183 0) 60) (Int.tmod (rd t183 1) (wrap64 ((Int.tmod (rd t183 0) 60) + 1))) bt188.2.2.2 (bt188.2.2.2 != (decide (t194 ≥ (Int.tmod (rd t183 0) 60)))) t179 t180 t181 bt188.1 bt188.2.1 bt188.2.2.1)) else (laws_FnAccounts.j0 k (Int.tmod (rd t183 0) 60) (Int.tmod (rd t183 1) (wrap64 ((Int.tmod (rd t183 0) 60) + 1))) bt188.2.2.2 true t179 t180 t181 bt188.1 bt188.2.1 bt188.2.2.1))))) else (none)) else (none)) = some r := H
  have A5 := Am A50
  clear A50
  by_cases c6 : 0 < (t183.length : Int)
  ·rw [if_pos c6] at H
   have c6b0 : decide (0 < (t183.length : Int)) = true := decide_eq_true c6
   have c6b1 : decide (0 < t183.length) = true := decide_eq_true (by omega)
   clear c6
   by_cases c7 : 1 < (t183.length : Int)
   ·rw [if_pos c7] at H
    have c7b0 : decide (1 < (t183.length : Int)) = true := decide_eq_true c7
    have c7b1 : decide (1 < t183.length) = true := decide_eq_true (by omega)
    clear c7
    by_cases c8 : (wrap64 ((Int.tmod (rd t183 0) 60) + 1)) = 0
    ·rw [if_pos c8] at H
     exact absurd H (by simp)
    ·rw [if_neg c8] at H
     have c8b0 : ((wrap64 ((Int.tmod (rd t183 0) 60) + 1)) == 0) = false := beq_eq_false_iff_ne.mpr c8
     have c8b1 : ((wrap64 ((Int.tmod (rd t183 0) 60) + 1)) != 0) = true := bne_iff_ne.mpr c8
     replace H := Option.bind_eq_some_iff.mp H
     obtain ⟨⟨t188, t189, t190, t191⟩, A90, H⟩ := H
     replace H : ((impl_AccountOk.f t179 t180 t181).bind fun t193 => (if t193 = true then ((impl_FreeSheets.f t179 t180 t181).bind fun t194 => (laws_FnAccounts.j0 k (Int.tmod (rd t183 0) 60) (Int.tmod (rd t183 1) (wrap64 ((Int.tmod (rd t183 0) 60) + 1))) t191 (t191 != (decide (t194 ≥ (Int.tmod (rd t183 0) 60)))) t179 t180 t181 t188 t189 t190)) else (laws_FnAccounts.j0 k (Int.tmod (rd t183 0) 60) (Int.tmod (rd t183 1) (wrap64 ((Int.tmod (rd t183 0) 60) + 1))) t191 true t179 t180 t181 t188 t189 t190))) = some r := H
     have A9 := Am A90
     clear A90
     have HC10 := Am H
     clear H
     go_enter Try.func3, Try.ntmps3
     go_upto_region 8 with (first | ((with_reducible refine gate_callee (f := 15) rfl ?_); refine goesL_ (some 12) rfl rfl Try.func15 (by kernel_rfl) rfl #[.slice A0 l0.length c0] rfl (by (try simp only [List.map_toArray, List.map_cons, List.map_nil]); first | done | rfl | (simp only [List.length_drop, List.length_take]; rfl)) ?_; (with_reducible refine (laws_big.calls _ _ l0 false _ ?side1 ?side2 A2.out).mono ?_); (case side1 => repeat (first | exact HR0.out | (with_reducible refine Kd.C_alloc ?_ _) | (with_reducible refine Kd.C_drewN ?_ _) | (with_reducible refine Kd.C_drew ?_))); (case side2 => exact HC0.out); rintro e w' ⟨rfl, ⟨nd, rfl⟩⟩; refine ⟨_, rfl, ?_⟩) | ((with_reducible refine gate_callee (f := 16) rfl ?_); refine goesL_ (some 14) rfl rfl Try.func16 (by kernel_rfl) rfl #[.slice A0 l0.length c0] rfl (by (try simp only [List.map_toArray, List.map_cons, List.map_nil]); first | done | rfl | (simp only [List.length_drop, List.length_take]; rfl)) ?_; (with_reducible refine (spec_DrawAccount.calls k _ _ l0 t179 t180 t181 _ ?side1 ?side2 A4.out).mono ?_); (case side1 => repeat (first | exact HR0.out | (with_reducible refine Kd.C_alloc ?_ _) | (with_reducible refine Kd.C_drewN ?_ _) | (with_reducible refine Kd.C_drew ?_))); (case side2 => exact HC0.out); rintro e w11 ⟨rfl, hb⟩; refine ⟨_, rfl, ?_⟩; have n0_ := Am (below_step (by repeat (first | (with_reducible first | exact HB.out | apply b5 | apply b4 | apply b6) | exact HB.out)) hb); clear HB; have HB := n0_; clear n0_; (try clear hb); (try clear hb2); (try clear hk); (try clear hi)) | ((with_reducible refine gate_dst (N := 3) rfl ?_); refine box_event ?hg (N := 3) ?hd (cs := #[.int .i64 0, .int .i64 0, .int .i64 0]) (t := 25) ?hr ?_; (case hd => rfl); (case hg => rfl); (case hr => first | (go_simp; done) | (go_simp; rfl)); intro gb182 hg w12 hbox hb; have n0_ := Am (below_step (by repeat (first | (with_reducible first | exact HB.out | apply b5 | apply b4 | apply b6) | exact HB.out)) hb); have n1_ := Am (hbox); have n2_ := Am ((by rw [hg]; exact (below_size (by repeat (first | (with_reducible first | exact HB.out | apply b5 | apply b4 | apply b6) | exact HB.out))) : w.heap.size ≤ gb182)); have n3_ := Am ((by rw [hg]; exact (below_size (by repeat (first | (with_reducible first | exact HB.out | apply b5 | apply b4 | apply b6) | exact HB.out))) : w.heap.size ≤ gb182)); clear HB; have HB := n0_; have BK182 := n1_; have GW182 := n2_; have GE182 := n3_; clear n0_ n1_ n2_ n3_; clear hb hbox hg; have hcz13_0 : w12.cell? ⟨gb182, 0, none⟩ = some (.int .i64 0) := (b8 BK182.out 0).trans rfl; have hcz13_1 : w12.cell? ⟨gb182, 1, none⟩ = some (.int .i64 0) := (b8 BK182.out 1).trans rfl; have hcz13_2 : w12.cell? ⟨gb182, 2, none⟩ = some (.int .i64 0) := (b8 BK182.out 2).trans rfl; have hfz13_0 := blk_frozen BK182.out 0; have hfz13_1 := blk_frozen BK182.out 1; have hfz13_2 := blk_frozen BK182.out 2) | ((with_reducible refine gate_callee (f := 17) rfl ?_); refine goesL_ (some 16) rfl rfl Try.func17 (by kernel_rfl) rfl #[.slice A0 l0.length c0] rfl (by (try simp only [List.map_toArray, List.map_cons, List.map_nil]); first | done | rfl | (simp only [List.length_drop, List.length_take]; rfl)) ?_; (with_reducible refine (spec_DrawPlaces.calls k _ _ l0 t183 _ ?side1 ?side2 A5.out).mono ?_); (case side1 => exact Kd.C_below HR0.out (by repeat (first | (with_reducible first | exact HB.out | apply b5 | apply b4 | apply b6 | refine b7 ?_ GE182.out) | exact HB.out))); (case side2 => exact HC0.out); rintro e w14 ⟨v184, rfl, ho0, hb⟩; refine ⟨_, rfl, ?_⟩; have n0_ := Am (Kd.R_lower ho0 (below_size (by repeat (first | (with_reducible first | exact HB.out | apply b5 | apply b4 | apply b6 | refine b7 ?_ GE182.out) | exact HB.out)))); have n1_ := Am (blk_below (g := gb182) (o := .cells #[.int .i64 t179, .int .i64 t180, .int .i64 t181] 25 (0, 0)) (by (with_reducible repeat (first | refine b1 ?_ _ | refine b2 ?_ | refine b3 ?_ _)); refine blk_put (cs := #[.int .i64 t179, .int .i64 t180, .int .i64 0]) ?_ 2 _ rfl; (with_reducible repeat (first | refine b1 ?_ _ | refine b2 ?_ | refine b3 ?_ _)); refine blk_put (cs := #[.int .i64 t179, .int .i64 0, .int .i64 0]) ?_ 1 _ rfl; (with_reducible repeat (first | refine b1 ?_ _ | refine b2 ?_ | refine b3 ?_ _)); refine blk_put (cs := #[.int .i64 0, .int .i64 0, .int .i64 0]) ?_ 0 _ rfl; (with_reducible repeat (first | refine b1 ?_ _ | refine b2 ?_ | refine b3 ?_ _)); exact BK182.out) hb); have n2_ := Am (below_step (by repeat (first | (with_reducible first | exact HB.out | apply b5 | apply b4 | apply b6 | refine b7 ?_ GE182.out) | exact HB.out)) hb); clear BK182; clear HB; have HO185 := n0_; have BK182 := n1_; have HB := n2_; clear n0_ n1_ n2_; (try clear hb); (try clear hb2); (try clear hk); (try clear hi); (try clear ho0); obtain ⟨Ao15, co15, eo15⟩ := Kd.R_slice HO185.out; subst eo15; have p186 : 0 ≤ (0 : Int) := (by omega); have q186 : 0 < (t183.length : Int) := of_decide_eq_true (by first | (with_reducible assumption) | assumption); obtain ⟨ad186, e186, hx186_0⟩ := Kd.at_int (Kd.R_reads' HO185.out).2.2 0 p186 q186; cases e186; have qi186 : (0 < t183.length) = True := eq_true (by omega); (try rw [show ((0 : Int)).toNat = 0 from rfl] at hx186_0); (try rw [Addr.add_zero'] at hx186_0); replace p186 := eq_true p186; replace q186 := eq_true q186; have p187 : 0 ≤ (1 : Int) := (by omega); have q187 : 1 < (t183.length : Int) := of_decide_eq_true (by first | (with_reducible assumption) | assumption); obtain ⟨ad187, e187, hx187_0⟩ := Kd.at_int (Kd.R_reads' HO185.out).2.2 1 p187 q187; obtain rfl : ad186 = ad187 := (by injection e187); (try simp only [show (1 : Int).toNat = 1 from rfl, Nat.reduceMul, Nat.reduceEqDiff, Go.Addr.add, ↓reduceIte] at hx187_0); have qi187 : (1 < t183.length) = True := eq_true (by omega); (try rw [show ((1 : Int)).toNat = 1 from rfl] at hx187_0); replace p187 := eq_true p187; replace q187 := eq_true q187; have hcz16_0 : w14.cell? ⟨gb182, 0, none⟩ = some (.int .i64 t179) := (b8 BK182.out 0).trans rfl; have hcz16_1 : w14.cell? ⟨gb182, 1, none⟩ = some (.int .i64 t180) := (b8 BK182.out 1).trans rfl; have hcz16_2 : w14.cell? ⟨gb182, 2, none⟩ = some (.int .i64 t181) := (b8 BK182.out 2).trans rfl; have hfz16_0 := blk_frozen BK182.out 0; have hfz16_1 := blk_frozen BK182.out 1; have hfz16_2 := blk_frozen BK182.out 2) | ((with_reducible refine gate_callee (f := 18) rfl ?_); refine goesL_ (some 30) rfl rfl Try.func18 (by kernel_rfl) rfl #[.agg #[.int .i64 t179, .int .i64 t180, .int .i64 t181], .int .i64 (Int.tmod (rd t183 0) 60)] rfl (by (try simp only [List.map_toArray, List.map_cons, List.map_nil]); first | done | rfl | (simp only [List.length_drop, List.length_take]; rfl)) ?_; (with_reducible refine (impl_Reserve.calls k t179 t180 t181 (Int.tmod (rd t183 0) 60) t188 t189 t190 t191 _ A9.out).mono ?_); rintro e w17 ⟨rfl, hb⟩; refine ⟨_, rfl, ?_⟩; have n0_ := Am (Kd.R_below (by (with_reducible repeat (first | apply Kd.R_alloc | apply Kd.R_drewN | apply Kd.R_drew)); exact HO185.out) hb); have n1_ := Am (blk_below (g := gb182) (o := .cells #[.int .i64 t179, .int .i64 t180, .int .i64 t181] 25 (0, 0)) (by (with_reducible repeat (first | refine b1 ?_ _ | refine b2 ?_ | refine b3 ?_ _)); exact BK182.out) hb); have n2_ := Am (below_step (by repeat (first | (with_reducible first | exact HB.out | apply b5 | apply b4 | apply b6 | refine b7 ?_ GE182.out) | exact HB.out)) hb); clear HO185; clear BK182; clear HB; have HO185 := n0_; have BK182 := n1_; have HB := n2_; clear n0_ n1_ n2_; (try clear hb); (try clear hb2); (try clear hk); (try clear hi)) | ((with_reducible refine gate_dst (N := 7) rfl ?_); refine box_event ?hg (N := 7) ?hd (cs := #[.int .i64 0, .int .i64 0, .int .i64 0]) (t := 25) ?hr ?_; (case hd => rfl); (case hg => rfl); (case hr => first | (go_simp; done) | (go_simp; rfl)); intro gb192 hg w18 hbox hb; have n0_ := Am (Kd.R_below (by (with_reducible repeat (first | apply Kd.R_alloc | apply Kd.R_drewN | apply Kd.R_drew)); exact HO185.out) hb); have n1_ := Am (blk_below (g := gb182) (o := .cells #[.int .i64 t179, .int .i64 t180, .int .i64 t181] 25 (0, 0)) (by (with_reducible repeat (first | refine b1 ?_ _ | refine b2 ?_ | refine b3 ?_ _)); exact BK182.out) hb); have n2_ := Am (below_step (by repeat (first | (with_reducible first | exact HB.out | apply b5 | apply b4 | apply b6 | refine b7 ?_ GE182.out) | exact HB.out)) hb); have n3_ := Am (hbox); have n4_ := Am ((by rw [hg]; exact (below_size (by repeat (first | (with_reducible first | exact HB.out | apply b5 | apply b4 | apply b6 | refine b7 ?_ GE182.out) | exact HB.out))) : w.heap.size ≤ gb192)); have n5_ := Am ((by rw [hg]; exact (below_size (by repeat (first | (with_reducible first | exact HB.out | apply b5 | apply b4 | apply b6 | refine b7 ?_ GE182.out) | exact HB.out))) : w.heap.size ≤ gb192)); have n6_ := Am ((by rw [hg]; exact Nat.ne_of_lt (blk_lt (g := gb182) (o := .cells #[.int .i64 t179, .int .i64 t180, .int .i64 t181] 25 (0, 0)) (by (with_reducible repeat (first | refine b1 ?_ _ | refine b2 ?_ | refine b3 ?_ _)); exact BK182.out)) : gb182 ≠ gb192)); have n7_ := Am ((by rw [hg]; exact Nat.ne_of_gt (blk_lt (g := gb182) (o := .cells #[.int .i64 t179, .int .i64 t180, .int .i64 t181] 25 (0, 0)) (by (with_reducible repeat (first | refine b1 ?_ _ | refine b2 ?_ | refine b3 ?_ _)); exact BK182.out)) : gb192 ≠ gb182)); clear HO185; clear BK182; clear HB; have HO185 := n0_; have BK182 := n1_; have HB := n2_; have BK192 := n3_; have GW192 := n4_; have GE192 := n5_; have NB182_192 := n6_; have NB192_182 := n7_; clear n0_ n1_ n2_ n3_ n4_ n5_ n6_ n7_; clear hb hbox hg; have hnb19 := NB192_182.out; have hnc19 := NB182_192.out; have hcz20_0 : w18.cell? ⟨gb192, 0, none⟩ = some (.int .i64 0) := (b8 BK192.out 0).trans rfl; have hcz20_1 : w18.cell? ⟨gb192, 1, none⟩ = some (.int .i64 0) := (b8 BK192.out 1).trans rfl; have hcz20_2 : w18.cell? ⟨gb192, 2, none⟩ = some (.int .i64 0) := (b8 BK192.out 2).trans rfl; have hfz20_0 := blk_frozen BK192.out 0; have hfz20_1 := blk_frozen BK192.out 1; have hfz20_2 := blk_frozen BK192.out 2))
     (try simp only [Act.put, zA, zB, zC])
     go_cut [43] (fun v43 wc => ∃ (kq : Nat) (x43_9 : Bool), v43 = .bool x43_9 ∧ Aside0 (laws_FnAccounts.j0 kq (Int.tmod (rd t183 0) 60) (Int.tmod (rd t183 1) (wrap64 ((Int.tmod (rd t183 0) 60) + 1))) t191 x43_9 t179 t180 t181 t188 t189 t190 = some r) ∧ Aside0 (kq ≤ k) ∧ Aside0 (wc.heap[gb182]? = some (.cells #[.int .i64 t179, .int .i64 t180, .int .i64 t181] 25 (0, 0))) ∧ Aside0 (wc.heap[gb192]? = some (.cells #[.int .i64 t188, .int .i64 t189, .int .i64 t190] 25 (0, 0))) ∧ Aside0 (Below w.heap.size w wc))
     case first =>
      have H := HC10.out
      clear HC10
      replace H := Option.bind_eq_some_iff.mp H
      obtain ⟨t193, A210, H⟩ := H
      replace H : (if t193 = true then ((impl_FreeSheets.f t179 t180 t181).bind fun t194 => (laws_FnAccounts.j0 k (Int.tmod (rd t183 0) 60) (Int.tmod (rd t183 1) (wrap64 ((Int.tmod (rd t183 0) 60) + 1))) t191 (t191 != (decide (t194 ≥ (Int.tmod (rd t183 0) 60)))) t179 t180 t181 t188 t189 t190)) else (laws_FnAccounts.j0 k (Int.tmod (rd t183 0) 60) (Int.tmod (rd t183 1) (wrap64 ((Int.tmod (rd t183 0) 60) + 1))) t191 true t179 t180 t181 t188 t189 t190)) = some r := H
      have A21 := Am A210
      clear A210
      by_cases c22 : t193 = true
      ·subst c22
       have H1 : ((impl_FreeSheets.f t179 t180 t181).bind fun t194 => (laws_FnAccounts.j0 k (Int.tmod (rd t183 0) 60) (Int.tmod (rd t183 1) (wrap64 ((Int.tmod (rd t183 0) 60) + 1))) t191 (t191 != (decide (t194 ≥ (Int.tmod (rd t183 0) 60)))) t179 t180 t181 t188 t189 t190)) = some r := by rw [if_pos rfl] at H; exact H
       clear H
       have H := H1
       clear H1
       replace H := Option.bind_eq_some_iff.mp H
       obtain ⟨t194, A230, H⟩ := H
       replace H : (laws_FnAccounts.j0 k (Int.tmod (rd t183 0) 60) (Int.tmod (rd t183 1) (wrap64 ((Int.tmod (rd t183 0) 60) + 1))) t191 (t191 != (decide (t194 ≥ (Int.tmod (rd t183 0) 60)))) t179 t180 t181 t188 t189 t190) = some r := H
       have A23 := Am A230
       clear A230
       have H' := Am H
       clear H
       have hnb24 := NB182_192.out
       have hnc24 := NB192_182.out
       have hcz25_0 : w18.cell? ⟨gb182, 0, none⟩ = some (.int .i64 t179) := (b8 BK182.out 0).trans rfl
       have hcz25_1 : w18.cell? ⟨gb182, 1, none⟩ = some (.int .i64 t180) := (b8 BK182.out 1).trans rfl
       have hcz25_2 : w18.cell? ⟨gb182, 2, none⟩ = some (.int .i64 t181) := (b8 BK182.out 2).trans rfl
       have hfz25_0 := blk_frozen BK182.out 0
       have hfz25_1 := blk_frozen BK182.out 1
       have hfz25_2 := blk_frozen BK182.out 2
       go_wp2_with (first | ((with_reducible refine gate_callee (f := 19) rfl ?_); refine goesL_ (some 34) rfl rfl Try.func19 (by kernel_rfl) rfl #[.agg #[.int .i64 t179, .int .i64 t180, .int .i64 t181]] rfl (by (try simp only [List.map_toArray, List.map_cons, List.map_nil]); first | done | rfl | (simp only [List.length_drop, List.length_take]; rfl)) ?_; (with_reducible refine (impl_AccountOk.calls t179 t180 t181 true _ A21.out).mono ?_); rintro e w26 ⟨rfl, hb⟩; refine ⟨_, rfl, ?_⟩; have n0_ := Am (Kd.R_below (by (with_reducible repeat (first | apply Kd.R_alloc | apply Kd.R_drewN | apply Kd.R_drew)); exact (Kd.R_mono (Kd.R_far (p := ⟨gb192, 2, none⟩) (Kd.R_far (p := ⟨gb192, 1, none⟩) (Kd.R_far (p := ⟨gb192, 0, none⟩) (Kd.R_types HO185.out BK192.out (by decide)) (fun _ hk => hk.2) (.int .i64 t188)) (fun _ hk => hk.2) (.int .i64 t189)) (fun _ hk => hk.2) (.int .i64 t190)) (fun _ h_ => h_.1))) hb); have n1_ := Am (blk_below (g := gb182) (o := .cells #[.int .i64 t179, .int .i64 t180, .int .i64 t181] 25 (0, 0)) (by (with_reducible repeat (first | refine b1 ?_ _ | refine b2 ?_ | refine b3 ?_ _)); refine blk_far ?_ NB182_192.out _; (with_reducible repeat (first | refine b1 ?_ _ | refine b2 ?_ | refine b3 ?_ _)); refine blk_far ?_ NB182_192.out _; (with_reducible repeat (first | refine b1 ?_ _ | refine b2 ?_ | refine b3 ?_ _)); refine blk_far ?_ NB182_192.out _; (with_reducible repeat (first | refine b1 ?_ _ | refine b2 ?_ | refine b3 ?_ _)); exact BK182.out) hb); have n2_ := Am (blk_below (g := gb192) (o := .cells #[.int .i64 t188, .int .i64 t189, .int .i64 t190] 25 (0, 0)) (by (with_reducible repeat (first | refine b1 ?_ _ | refine b2 ?_ | refine b3 ?_ _)); refine blk_put (cs := #[.int .i64 t188, .int .i64 t189, .int .i64 0]) ?_ 2 _ rfl; (with_reducible repeat (first | refine b1 ?_ _ | refine b2 ?_ | refine b3 ?_ _)); refine blk_put (cs := #[.int .i64 t188, .int .i64 0, .int .i64 0]) ?_ 1 _ rfl; (with_reducible repeat (first | refine b1 ?_ _ | refine b2 ?_ | refine b3 ?_ _)); refine blk_put (cs := #[.int .i64 0, .int .i64 0, .int .i64 0]) ?_ 0 _ rfl; (with_reducible repeat (first | refine b1 ?_ _ | refine b2 ?_ | refine b3 ?_ _)); exact BK192.out) hb); have n3_ := Am (below_step (by repeat (first | (with_reducible first | exact HB.out | apply b5 | apply b4 | apply b6 | refine b7 ?_ GE182.out | refine b7 ?_ GE192.out) | exact HB.out)) hb); clear HO185; clear BK182; clear BK192; clear HB; have HO185 := n0_; have BK182 := n1_; have BK192 := n2_; have HB := n3_; clear n0_ n1_ n2_ n3_; (try clear hb); (try clear hb2); (try clear hk); (try clear hi); have hcz27_0 : w26.cell? ⟨gb182, 0, none⟩ = some (.int .i64 t179) := (b8 BK182.out 0).trans rfl; have hcz27_1 : w26.cell? ⟨gb182, 1, none⟩ = some (.int .i64 t180) := (b8 BK182.out 1).trans rfl; have hcz27_2 : w26.cell? ⟨gb182, 2, none⟩ = some (.int .i64 t181) := (b8 BK182.out 2).trans rfl; have hfz27_0 := blk_frozen BK182.out 0; have hfz27_1 := blk_frozen BK182.out 1; have hfz27_2 := blk_frozen BK182.out 2) | (go_at_call 20; (with_reducible refine (impl_FreeSheets.calls t179 t180 t181 t194 _ A23.out).mono ?_); rintro e w28 ⟨rfl, hb⟩; have n0_ := Am (Kd.R_below (by (with_reducible repeat (first | apply Kd.R_alloc | apply Kd.R_drewN | apply Kd.R_drew)); exact HO185.out) hb); have n1_ := Am (blk_below (g := gb182) (o := .cells #[.int .i64 t179, .int .i64 t180, .int .i64 t181] 25 (0, 0)) (by (with_reducible repeat (first | refine b1 ?_ _ | refine b2 ?_ | refine b3 ?_ _)); exact BK182.out) hb); have n2_ := Am (blk_below (g := gb192) (o := .cells #[.int .i64 t188, .int .i64 t189, .int .i64 t190] 25 (0, 0)) (by (with_reducible repeat (first | refine b1 ?_ _ | refine b2 ?_ | refine b3 ?_ _)); exact BK192.out) hb); have n3_ := Am (below_step (by repeat (first | (with_reducible first | exact HB.out | apply b5 | apply b4 | apply b6 | refine b7 ?_ GE182.out | refine b7 ?_ GE192.out) | exact HB.out)) hb); clear HO185; clear BK182; clear BK192; clear HB; have HO185 := n0_; have BK182 := n1_; have BK192 := n2_; have HB := n3_; clear n0_ n1_ n2_ n3_; (try clear hb); (try clear hb2); (try clear hk); (try clear hi)))
       go_meet
       case rel => exact ⟨_, ((t191 != (decide (t194 ≥ (Int.tmod (rd t183 0) 60))))), (by first | rfl | (simp; done) | (simp [*]; done)), H', ⟨by first | omega | exact Nat.le_refl _⟩, ⟨by (with_reducible repeat (first | refine b1 ?_ _ | refine b2 ?_ | refine b3 ?_ _)); exact BK182.out⟩, ⟨by (with_reducible repeat (first | refine b1 ?_ _ | refine b2 ?_ | refine b3 ?_ _)); exact BK192.out⟩, ⟨by repeat (first | (with_reducible first | exact HB.out | apply b5 | apply b4 | apply b6 | refine b7 ?_ GE182.out | refine b7 ?_ GE192.out) | exact HB.out)⟩⟩
      ·replace c22 := Bool.eq_false_iff.mpr c22
       subst c22
       have H1 : (laws_FnAccounts.j0 k (Int.tmod (rd t183 0) 60) (Int.tmod (rd t183 1) (wrap64 ((Int.tmod (rd t183 0) 60) + 1))) t191 true t179 t180 t181 t188 t189 t190) = some r := by rw [if_neg (show ¬ (false = true) by decide)] at H; exact H
       clear H
       have H := H1
       clear H1
       have H' := Am H
       clear H
       have hnb29 := NB182_192.out
       have hnc29 := NB192_182.out
       have hcz30_0 : w18.cell? ⟨gb182, 0, none⟩ = some (.int .i64 t179) := (b8 BK182.out 0).trans rfl
       have hcz30_1 : w18.cell? ⟨gb182, 1, none⟩ = some (.int .i64 t180) := (b8 BK182.out 1).trans rfl
       have hcz30_2 : w18.cell? ⟨gb182, 2, none⟩ = some (.int .i64 t181) := (b8 BK182.out 2).trans rfl
       have hfz30_0 := blk_frozen BK182.out 0
       have hfz30_1 := blk_frozen BK182.out 1
       have hfz30_2 := blk_frozen BK182.out 2
       go_wp2_with (first | ((with_reducible refine gate_callee (f := 19) rfl ?_); refine goesL_ (some 34) rfl rfl Try.func19 (by kernel_rfl) rfl #[.agg #[.int .i64 t179, .int .i64 t180, .int .i64 t181]] rfl (by (try simp only [List.map_toArray, List.map_cons, List.map_nil]); first | done | rfl | (simp only [List.length_drop, List.length_take]; rfl)) ?_; (with_reducible refine (impl_AccountOk.calls t179 t180 t181 false _ A21.out).mono ?_); rintro e w31 ⟨rfl, hb⟩; refine ⟨_, rfl, ?_⟩; have n0_ := Am (Kd.R_below (by (with_reducible repeat (first | apply Kd.R_alloc | apply Kd.R_drewN | apply Kd.R_drew)); exact (Kd.R_mono (Kd.R_far (p := ⟨gb192, 2, none⟩) (Kd.R_far (p := ⟨gb192, 1, none⟩) (Kd.R_far (p := ⟨gb192, 0, none⟩) (Kd.R_types HO185.out BK192.out (by decide)) (fun _ hk => hk.2) (.int .i64 t188)) (fun _ hk => hk.2) (.int .i64 t189)) (fun _ hk => hk.2) (.int .i64 t190)) (fun _ h_ => h_.1))) hb); have n1_ := Am (blk_below (g := gb182) (o := .cells #[.int .i64 t179, .int .i64 t180, .int .i64 t181] 25 (0, 0)) (by (with_reducible repeat (first | refine b1 ?_ _ | refine b2 ?_ | refine b3 ?_ _)); refine blk_far ?_ NB182_192.out _; (with_reducible repeat (first | refine b1 ?_ _ | refine b2 ?_ | refine b3 ?_ _)); refine blk_far ?_ NB182_192.out _; (with_reducible repeat (first | refine b1 ?_ _ | refine b2 ?_ | refine b3 ?_ _)); refine blk_far ?_ NB182_192.out _; (with_reducible repeat (first | refine b1 ?_ _ | refine b2 ?_ | refine b3 ?_ _)); exact BK182.out) hb); have n2_ := Am (blk_below (g := gb192) (o := .cells #[.int .i64 t188, .int .i64 t189, .int .i64 t190] 25 (0, 0)) (by (with_reducible repeat (first | refine b1 ?_ _ | refine b2 ?_ | refine b3 ?_ _)); refine blk_put (cs := #[.int .i64 t188, .int .i64 t189, .int .i64 0]) ?_ 2 _ rfl; (with_reducible repeat (first | refine b1 ?_ _ | refine b2 ?_ | refine b3 ?_ _)); refine blk_put (cs := #[.int .i64 t188, .int .i64 0, .int .i64 0]) ?_ 1 _ rfl; (with_reducible repeat (first | refine b1 ?_ _ | refine b2 ?_ | refine b3 ?_ _)); refine blk_put (cs := #[.int .i64 0, .int .i64 0, .int .i64 0]) ?_ 0 _ rfl; (with_reducible repeat (first | refine b1 ?_ _ | refine b2 ?_ | refine b3 ?_ _)); exact BK192.out) hb); have n3_ := Am (below_step (by repeat (first | (with_reducible first | exact HB.out | apply b5 | apply b4 | apply b6 | refine b7 ?_ GE182.out | refine b7 ?_ GE192.out) | exact HB.out)) hb); clear HO185; clear BK182; clear BK192; clear HB; have HO185 := n0_; have BK182 := n1_; have BK192 := n2_; have HB := n3_; clear n0_ n1_ n2_ n3_; (try clear hb); (try clear hb2); (try clear hk); (try clear hi)))
       go_meet
       case rel => exact ⟨_, (true), (by first | rfl | (simp; done) | (simp [*]; done)), H', ⟨by first | omega | exact Nat.le_refl _⟩, ⟨by (with_reducible repeat (first | refine b1 ?_ _ | refine b2 ?_ | refine b3 ?_ _)); exact BK182.out⟩, ⟨by (with_reducible repeat (first | refine b1 ?_ _ | refine b2 ?_ | refine b3 ?_ _)); exact BK192.out⟩, ⟨by repeat (first | (with_reducible first | exact HB.out | apply b5 | apply b4 | apply b6 | refine b7 ?_ GE182.out | refine b7 ?_ GE192.out) | exact HB.out)⟩⟩
     case rest =>
      clear HC10
      try clear c1
      try clear p1
      try clear q1
      try clear hx1
      try clear qi1
      try clear c2
      try clear p2
      try clear c3
      try clear c6
      try clear c6b0
      try clear c6b1
      try clear p6
      try clear c7
      try clear c7b0
      try clear c7b1
      try clear c8
      try clear c8b0
      try clear c8b1
      try clear c15
      try clear c16
      try clear c17
      try clear c18
      try clear p18
      try clear q18
      try clear hx18
      try clear qi18
      try clear c19
      try clear c22
      try clear c24
      try clear c29
      try clear hcz13_0
      try clear hcz13_1
      try clear hcz13_2
      try clear hcz16_0
      try clear hcz16_1
      try clear hcz16_2
      try clear hcz20_0
      try clear hcz20_1
      try clear hcz20_2
      try clear hcz25_0
      try clear hcz25_1
      try clear hcz25_2
      try clear hcz27_0
      try clear hcz27_1
      try clear hcz27_2
      try clear hcz30_0
      try clear hcz30_1
      try clear hcz30_2
      try clear hfz13_0
      try clear hfz13_1
      try clear hfz13_2
      try clear hfz16_0
      try clear hfz16_1
      try clear hfz16_2
      try clear hfz20_0
      try clear hfz20_1
      try clear hfz20_2
      try clear hfz25_0
      try clear hfz25_1
      try clear hfz25_2
      try clear hfz27_0
      try clear hfz27_1
      try clear hfz27_2
      try clear hfz30_0
      try clear hfz30_1
      try clear hfz30_2
      try clear hx186_0
      try clear hx187_0
      try clear p186
      try clear p187
      try clear q186
      try clear q187
      obtain ⟨kq, x43_9, rfl, HA, HJ9, BK182, BK192, HB⟩ := hcut
      cases kq with
      | zero => exact absurd HA.out (by simp [laws_FnAccounts.j0])
      | succ kj9 =>
       have H := HA.out
       clear HA
       simp only [laws_FnAccounts.j0] at H
       by_cases c32 : x43_9 = true
       ·subst c32
        have H1 : (some false) = some r := by rw [if_pos rfl] at H; exact H
        clear H
        have H := H1
        clear H1
        obtain rfl := Option.some.inj H
        go_wp2
        go_ret
        exact ⟨by first | rfl | (simp [errW_none, errW_some] <;> rfl) | (simp [*, errW_none, errW_some] <;> rfl), by repeat (first | (with_reducible first | exact HB.out | apply b5 | apply b4 | apply b6 | refine b7 ?_ GE182.out | refine b7 ?_ GE192.out) | exact HB.out)⟩
       ·replace c32 := Bool.eq_false_iff.mpr c32
        subst c32
        have H1 : (if t191 = true then ((impl_Settle.f t188 t189 t190 (Int.tmod (rd t183 0) 60) (Int.tmod (rd t183 1) (wrap64 ((Int.tmod (rd t183 0) 60) + 1)))).bind fun bt195 => (if bt195.2.2.2 = true then ((impl_AccountOk.f t188 t189 t190).bind fun t200 => (if t200 = true then ((impl_AccountOk.f bt195.1 bt195.2.1 bt195.2.2.1).bind fun t201 => (if t201 = true then ((impl_FreeSheets.f t188 t189 t190).bind fun t202 => ((impl_FreeSheets.f t179 t180 t181).bind fun t203 => (if t202 = (wrap64 (t203 - (Int.tmod (rd t183 0) 60))) then ((impl_FreeSheets.f bt195.1 bt195.2.1 bt195.2.2.1).bind fun t204 => ((impl_FreeSheets.f t179 t180 t181).bind fun t205 => (if t204 = (wrap64 (t205 - (Int.tmod (rd t183 1) (wrap64 ((Int.tmod (rd t183 0) 60) + 1))))) then (if bt195.2.1 = t180 then (some (bt195.2.2.1 == (wrap64 (t181 + (Int.tmod (rd t183 1) (wrap64 ((Int.tmod (rd t183 0) 60) + 1))))))) else (some false)) else (some false)))) else (some false)))) else (some false))) else (some false))) else (some false))) else (some (t188 == t179 && (t189 == t180 && (t190 == t181))))) = some r := by rw [if_neg (show ¬ (false = true) by decide)] at H; exact H
        clear H
        have H := H1
        clear H1
        by_cases c33 : t191 = true
        ·subst c33
         have H1 : ((impl_Settle.f t188 t189 t190 (Int.tmod (rd t183 0) 60) (Int.tmod (rd t183 1) (wrap64 ((Int.tmod (rd t183 0) 60) + 1)))).bind fun bt195 => (if bt195.2.2.2 = true then ((impl_AccountOk.f t188 t189 t190).bind fun t200 => (if t200 = true then ((impl_AccountOk.f bt195.1 bt195.2.1 bt195.2.2.1).bind fun t201 => (if t201 = true then ((impl_FreeSheets.f t188 t189 t190).bind fun t202 => ((impl_FreeSheets.f t179 t180 t181).bind fun t203 => (if t202 = (wrap64 (t203 - (Int.tmod (rd t183 0) 60))) then ((impl_FreeSheets.f bt195.1 bt195.2.1 bt195.2.2.1).bind fun t204 => ((impl_FreeSheets.f t179 t180 t181).bind fun t205 => (if t204 = (wrap64 (t205 - (Int.tmod (rd t183 1) (wrap64 ((Int.tmod (rd t183 0) 60) + 1))))) then (if bt195.2.1 = t180 then (some (bt195.2.2.1 == (wrap64 (t181 + (Int.tmod (rd t183 1) (wrap64 ((Int.tmod (rd t183 0) 60) + 1))))))) else (some false)) else (some false)))) else (some false)))) else (some false))) else (some false))) else (some false))) = some r := by rw [if_pos rfl] at H; exact H
         clear H
         have H := H1
         clear H1
         replace H := Option.bind_eq_some_iff.mp H
         obtain ⟨⟨t195, t196, t197, t198⟩, A340, H⟩ := H
         replace H : (if t198 = true then ((impl_AccountOk.f t188 t189 t190).bind fun t200 => (if t200 = true then ((impl_AccountOk.f t195 t196 t197).bind fun t201 => (if t201 = true then ((impl_FreeSheets.f t188 t189 t190).bind fun t202 => ((impl_FreeSheets.f t179 t180 t181).bind fun t203 => (if t202 = (wrap64 (t203 - (Int.tmod (rd t183 0) 60))) then ((impl_FreeSheets.f t195 t196 t197).bind fun t204 => ((impl_FreeSheets.f t179 t180 t181).bind fun t205 => (if t204 = (wrap64 (t205 - (Int.tmod (rd t183 1) (wrap64 ((Int.tmod (rd t183 0) 60) + 1))))) then (if t196 = t180 then (some (t197 == (wrap64 (t181 + (Int.tmod (rd t183 1) (wrap64 ((Int.tmod (rd t183 0) 60) + 1))))))) else (some false)) else (some false)))) else (some false)))) else (some false))) else (some false))) else (some false)) = some r := H
         have A34 := Am A340
         clear A340
         by_cases c35 : t198 = true
         ·subst c35
          have H1 : ((impl_AccountOk.f t188 t189 t190).bind fun t200 => (if t200 = true then ((impl_AccountOk.f t195 t196 t197).bind fun t201 => (if t201 = true then ((impl_FreeSheets.f t188 t189 t190).bind fun t202 => ((impl_FreeSheets.f t179 t180 t181).bind fun t203 => (if t202 = (wrap64 (t203 - (Int.tmod (rd t183 0) 60))) then ((impl_FreeSheets.f t195 t196 t197).bind fun t204 => ((impl_FreeSheets.f t179 t180 t181).bind fun t205 => (if t204 = (wrap64 (t205 - (Int.tmod (rd t183 1) (wrap64 ((Int.tmod (rd t183 0) 60) + 1))))) then (if t196 = t180 then (some (t197 == (wrap64 (t181 + (Int.tmod (rd t183 1) (wrap64 ((Int.tmod (rd t183 0) 60) + 1))))))) else (some false)) else (some false)))) else (some false)))) else (some false))) else (some false))) = some r := by rw [if_pos rfl] at H; exact H
          clear H
          have H := H1
          clear H1
          replace H := Option.bind_eq_some_iff.mp H
          obtain ⟨t200, A360, H⟩ := H
          replace H : (if t200 = true then ((impl_AccountOk.f t195 t196 t197).bind fun t201 => (if t201 = true then ((impl_FreeSheets.f t188 t189 t190).bind fun t202 => ((impl_FreeSheets.f t179 t180 t181).bind fun t203 => (if t202 = (wrap64 (t203 - (Int.tmod (rd t183 0) 60))) then ((impl_FreeSheets.f t195 t196 t197).bind fun t204 => ((impl_FreeSheets.f t179 t180 t181).bind fun t205 => (if t204 = (wrap64 (t205 - (Int.tmod (rd t183 1) (wrap64 ((Int.tmod (rd t183 0) 60) + 1))))) then (if t196 = t180 then (some (t197 == (wrap64 (t181 + (Int.tmod (rd t183 1) (wrap64 ((Int.tmod (rd t183 0) 60) + 1))))))) else (some false)) else (some false)))) else (some false)))) else (some false))) else (some false)) = some r := H
          have A36 := Am A360
          clear A360
          by_cases c37 : t200 = true
          ·subst c37
           have H1 : ((impl_AccountOk.f t195 t196 t197).bind fun t201 => (if t201 = true then ((impl_FreeSheets.f t188 t189 t190).bind fun t202 => ((impl_FreeSheets.f t179 t180 t181).bind fun t203 => (if t202 = (wrap64 (t203 - (Int.tmod (rd t183 0) 60))) then ((impl_FreeSheets.f t195 t196 t197).bind fun t204 => ((impl_FreeSheets.f t179 t180 t181).bind fun t205 => (if t204 = (wrap64 (t205 - (Int.tmod (rd t183 1) (wrap64 ((Int.tmod (rd t183 0) 60) + 1))))) then (if t196 = t180 then (some (t197 == (wrap64 (t181 + (Int.tmod (rd t183 1) (wrap64 ((Int.tmod (rd t183 0) 60) + 1))))))) else (some false)) else (some false)))) else (some false)))) else (some false))) = some r := by rw [if_pos rfl] at H; exact H
           clear H
           have H := H1
           clear H1
           replace H := Option.bind_eq_some_iff.mp H
           obtain ⟨t201, A380, H⟩ := H
           replace H : (if t201 = true then ((impl_FreeSheets.f t188 t189 t190).bind fun t202 => ((impl_FreeSheets.f t179 t180 t181).bind fun t203 => (if t202 = (wrap64 (t203 - (Int.tmod (rd t183 0) 60))) then ((impl_FreeSheets.f t195 t196 t197).bind fun t204 => ((impl_FreeSheets.f t179 t180 t181).bind fun t205 => (if t204 = (wrap64 (t205 - (Int.tmod (rd t183 1) (wrap64 ((Int.tmod (rd t183 0) 60) + 1))))) then (if t196 = t180 then (some (t197 == (wrap64 (t181 + (Int.tmod (rd t183 1) (wrap64 ((Int.tmod (rd t183 0) 60) + 1))))))) else (some false)) else (some false)))) else (some false)))) else (some false)) = some r := H
           have A38 := Am A380
           clear A380
           by_cases c39 : t201 = true
           ·subst c39
            have H1 : ((impl_FreeSheets.f t188 t189 t190).bind fun t202 => ((impl_FreeSheets.f t179 t180 t181).bind fun t203 => (if t202 = (wrap64 (t203 - (Int.tmod (rd t183 0) 60))) then ((impl_FreeSheets.f t195 t196 t197).bind fun t204 => ((impl_FreeSheets.f t179 t180 t181).bind fun t205 => (if t204 = (wrap64 (t205 - (Int.tmod (rd t183 1) (wrap64 ((Int.tmod (rd t183 0) 60) + 1))))) then (if t196 = t180 then (some (t197 == (wrap64 (t181 + (Int.tmod (rd t183 1) (wrap64 ((Int.tmod (rd t183 0) 60) + 1))))))) else (some false)) else (some false)))) else (some false)))) = some r := by rw [if_pos rfl] at H; exact H
            clear H
            have H := H1
            clear H1
            replace H := Option.bind_eq_some_iff.mp H
            obtain ⟨t202, A400, H⟩ := H
            replace H : ((impl_FreeSheets.f t179 t180 t181).bind fun t203 => (if t202 = (wrap64 (t203 - (Int.tmod (rd t183 0) 60))) then ((impl_FreeSheets.f t195 t196 t197).bind fun t204 => ((impl_FreeSheets.f t179 t180 t181).bind fun t205 => (if t204 = (wrap64 (t205 - (Int.tmod (rd t183 1) (wrap64 ((Int.tmod (rd t183 0) 60) + 1))))) then (if t196 = t180 then (some (t197 == (wrap64 (t181 + (Int.tmod (rd t183 1) (wrap64 ((Int.tmod (rd t183 0) 60) + 1))))))) else (some false)) else (some false)))) else (some false))) = some r := H
            have A40 := Am A400
            clear A400
            replace H := Option.bind_eq_some_iff.mp H
            obtain ⟨t203, A410, H⟩ := H
            replace H : (if t202 = (wrap64 (t203 - (Int.tmod (rd t183 0) 60))) then ((impl_FreeSheets.f t195 t196 t197).bind fun t204 => ((impl_FreeSheets.f t179 t180 t181).bind fun t205 => (if t204 = (wrap64 (t205 - (Int.tmod (rd t183 1) (wrap64 ((Int.tmod (rd t183 0) 60) + 1))))) then (if t196 = t180 then (some (t197 == (wrap64 (t181 + (Int.tmod (rd t183 1) (wrap64 ((Int.tmod (rd t183 0) 60) + 1))))))) else (some false)) else (some false)))) else (some false)) = some r := H
            have A41 := Am A410
            clear A410
            by_cases c42 : t202 = (wrap64 (t203 - (Int.tmod (rd t183 0) 60)))
            ·rw [if_pos c42] at H
             have c42b0 : (t202 == (wrap64 (t203 - (Int.tmod (rd t183 0) 60)))) = true := beq_iff_eq.mpr c42
             have c42b1 : (t202 != (wrap64 (t203 - (Int.tmod (rd t183 0) 60)))) = false := bne_eq_false_iff_eq.mpr c42
             clear c42
             replace H := Option.bind_eq_some_iff.mp H
             obtain ⟨t204, A430, H⟩ := H
             replace H : ((impl_FreeSheets.f t179 t180 t181).bind fun t205 => (if t204 = (wrap64 (t205 - (Int.tmod (rd t183 1) (wrap64 ((Int.tmod (rd t183 0) 60) + 1))))) then (if t196 = t180 then (some (t197 == (wrap64 (t181 + (Int.tmod (rd t183 1) (wrap64 ((Int.tmod (rd t183 0) 60) + 1))))))) else (some false)) else (some false))) = some r := H
             have A43 := Am A430
             clear A430
             replace H := Option.bind_eq_some_iff.mp H
             obtain ⟨t205, A440, H⟩ := H
             replace H : (if t204 = (wrap64 (t205 - (Int.tmod (rd t183 1) (wrap64 ((Int.tmod (rd t183 0) 60) + 1))))) then (if t196 = t180 then (some (t197 == (wrap64 (t181 + (Int.tmod (rd t183 1) (wrap64 ((Int.tmod (rd t183 0) 60) + 1))))))) else (some false)) else (some false)) = some r := H
             have A44 := Am A440
             clear A440
             by_cases c45 : t204 = (wrap64 (t205 - (Int.tmod (rd t183 1) (wrap64 ((Int.tmod (rd t183 0) 60) + 1)))))
             ·rw [if_pos c45] at H
              have c45b0 : (t204 == (wrap64 (t205 - (Int.tmod (rd t183 1) (wrap64 ((Int.tmod (rd t183 0) 60) + 1)))))) = true := beq_iff_eq.mpr c45
              have c45b1 : (t204 != (wrap64 (t205 - (Int.tmod (rd t183 1) (wrap64 ((Int.tmod (rd t183 0) 60) + 1)))))) = false := bne_eq_false_iff_eq.mpr c45
              clear c45
              by_cases c46 : t196 = t180
              ·rw [if_pos c46] at H
               have c46b0 : (t196 == t180) = true := beq_iff_eq.mpr c46
               have c46b1 : (t196 != t180) = false := bne_eq_false_iff_eq.mpr c46
               clear c46
               obtain rfl := Option.some.inj H
               have hnb47 := NB192_182.out
               have hnc47 := NB182_192.out
               have hcz48_0 : wc.cell? ⟨gb192, 0, none⟩ = some (.int .i64 t188) := (b8 BK192.out 0).trans rfl
               have hcz48_1 : wc.cell? ⟨gb192, 1, none⟩ = some (.int .i64 t189) := (b8 BK192.out 1).trans rfl
               have hcz48_2 : wc.cell? ⟨gb192, 2, none⟩ = some (.int .i64 t190) := (b8 BK192.out 2).trans rfl
               have hfz48_0 := blk_frozen BK192.out 0
               have hfz48_1 := blk_frozen BK192.out 1
               have hfz48_2 := blk_frozen BK192.out 2
               try go_wp2_with (first | ((with_reducible refine gate_callee (f := 21) rfl ?_); refine goesL_ (some 53) rfl rfl Try.func21 (by kernel_rfl) rfl #[.agg #[.int .i64 t188, .int .i64 t189, .int .i64 t190], .int .i64 (Int.tmod (rd t183 0) 60), .int .i64 (Int.tmod (rd t183 1) (wrap64 ((Int.tmod (rd t183 0) 60) + 1)))] rfl (by (try simp only [List.map_toArray, List.map_cons, List.map_nil]); first | done | rfl | (simp only [List.length_drop, List.length_take]; rfl)) ?_; (with_reducible refine (impl_Settle.calls t188 t189 t190 (Int.tmod (rd t183 0) 60) (Int.tmod (rd t183 1) (wrap64 ((Int.tmod (rd t183 0) 60) + 1))) t195 t196 t197 true _ A34.out).mono ?_); rintro e w49 ⟨rfl, hb⟩; refine ⟨_, rfl, ?_⟩; have n0_ := Am (blk_below (g := gb182) (o := .cells #[.int .i64 t179, .int .i64 t180, .int .i64 t181] 25 (0, 0)) (by (with_reducible repeat (first | refine b1 ?_ _ | refine b2 ?_ | refine b3 ?_ _)); exact BK182.out) hb); have n1_ := Am (blk_below (g := gb192) (o := .cells #[.int .i64 t188, .int .i64 t189, .int .i64 t190] 25 (0, 0)) (by (with_reducible repeat (first | refine b1 ?_ _ | refine b2 ?_ | refine b3 ?_ _)); exact BK192.out) hb); have n2_ := Am (below_step (by repeat (first | (with_reducible first | exact HB.out | apply b5 | apply b4 | apply b6 | refine b7 ?_ GE182.out | refine b7 ?_ GE192.out) | exact HB.out)) hb); clear BK182; clear BK192; clear HB; have BK182 := n0_; have BK192 := n1_; have HB := n2_; clear n0_ n1_ n2_; (try clear hb); (try clear hb2); (try clear hk); (try clear hi)) | ((with_reducible refine gate_dst (N := 9) rfl ?_); refine box_event ?hg (N := 9) ?hd (cs := #[.int .i64 0, .int .i64 0, .int .i64 0]) (t := 25) ?hr ?_; (case hd => rfl); (case hg => rfl); (case hr => first | (go_simp; done) | (go_simp; rfl)); intro gb199 hg w50 hbox hb; have n0_ := Am (blk_below (g := gb182) (o := .cells #[.int .i64 t179, .int .i64 t180, .int .i64 t181] 25 (0, 0)) (by (with_reducible repeat (first | refine b1 ?_ _ | refine b2 ?_ | refine b3 ?_ _)); exact BK182.out) hb); have n1_ := Am (blk_below (g := gb192) (o := .cells #[.int .i64 t188, .int .i64 t189, .int .i64 t190] 25 (0, 0)) (by (with_reducible repeat (first | refine b1 ?_ _ | refine b2 ?_ | refine b3 ?_ _)); exact BK192.out) hb); have n2_ := Am (below_step (by repeat (first | (with_reducible first | exact HB.out | apply b5 | apply b4 | apply b6 | refine b7 ?_ GE182.out | refine b7 ?_ GE192.out) | exact HB.out)) hb); have n3_ := Am (hbox); have n4_ := Am ((by rw [hg]; exact (below_size (by repeat (first | (with_reducible first | exact HB.out | apply b5 | apply b4 | apply b6 | refine b7 ?_ GE182.out | refine b7 ?_ GE192.out) | exact HB.out))) : w.heap.size ≤ gb199)); have n5_ := Am ((by rw [hg]; exact (below_size (by repeat (first | (with_reducible first | exact HB.out | apply b5 | apply b4 | apply b6 | refine b7 ?_ GE182.out | refine b7 ?_ GE192.out) | exact HB.out))) : w.heap.size ≤ gb199)); have n6_ := Am ((by rw [hg]; exact Nat.ne_of_lt (blk_lt (g := gb182) (o := .cells #[.int .i64 t179, .int .i64 t180, .int .i64 t181] 25 (0, 0)) (by (with_reducible repeat (first | refine b1 ?_ _ | refine b2 ?_ | refine b3 ?_ _)); exact BK182.out)) : gb182 ≠ gb199)); have n7_ := Am ((by rw [hg]; exact Nat.ne_of_gt (blk_lt (g := gb182) (o := .cells #[.int .i64 t179, .int .i64 t180, .int .i64 t181] 25 (0, 0)) (by (with_reducible repeat (first | refine b1 ?_ _ | refine b2 ?_ | refine b3 ?_ _)); exact BK182.out)) : gb199 ≠ gb182)); have n8_ := Am ((by rw [hg]; exact Nat.ne_of_lt (blk_lt (g := gb192) (o := .cells #[.int .i64 t188, .int .i64 t189, .int .i64 t190] 25 (0, 0)) (by (with_reducible repeat (first | refine b1 ?_ _ | refine b2 ?_ | refine b3 ?_ _)); exact BK192.out)) : gb192 ≠ gb199)); have n9_ := Am ((by rw [hg]; exact Nat.ne_of_gt (blk_lt (g := gb192) (o := .cells #[.int .i64 t188, .int .i64 t189, .int .i64 t190] 25 (0, 0)) (by (with_reducible repeat (first | refine b1 ?_ _ | refine b2 ?_ | refine b3 ?_ _)); exact BK192.out)) : gb199 ≠ gb192)); clear BK182; clear BK192; clear HB; have BK182 := n0_; have BK192 := n1_; have HB := n2_; have BK199 := n3_; have GW199 := n4_; have GE199 := n5_; have NB182_199 := n6_; have NB199_182 := n7_; have NB192_199 := n8_; have NB199_192 := n9_; clear n0_ n1_ n2_ n3_ n4_ n5_ n6_ n7_ n8_ n9_; clear hb hbox hg; have hnb51 := NB199_182.out; have hnc51 := NB182_199.out; have hnb52 := NB199_192.out; have hnc52 := NB192_199.out; have hcz53_0 : w50.cell? ⟨gb199, 0, none⟩ = some (.int .i64 0) := (b8 BK199.out 0).trans rfl; have hcz53_1 : w50.cell? ⟨gb199, 1, none⟩ = some (.int .i64 0) := (b8 BK199.out 1).trans rfl; have hcz53_2 : w50.cell? ⟨gb199, 2, none⟩ = some (.int .i64 0) := (b8 BK199.out 2).trans rfl; have hfz53_0 := blk_frozen BK199.out 0; have hfz53_1 := blk_frozen BK199.out 1; have hfz53_2 := blk_frozen BK199.out 2))
               have n0_ : Aside0 ((((w50.setCell ⟨gb199, 0, none⟩ (.int .i64 t195)).setCell ⟨gb199, 1, none⟩ (.int .i64 t196)).setCell ⟨gb199, 2, none⟩ (.int .i64 t197)).heap[gb182]? = some (.cells #[.int .i64 t179, .int .i64 t180, .int .i64 t181] 25 (0, 0))) := ⟨by (with_reducible repeat (first | refine b1 ?_ _ | refine b2 ?_ | refine b3 ?_ _)); refine blk_far ?_ NB182_199.out _; (with_reducible repeat (first | refine b1 ?_ _ | refine b2 ?_ | refine b3 ?_ _)); refine blk_far ?_ NB182_199.out _; (with_reducible repeat (first | refine b1 ?_ _ | refine b2 ?_ | refine b3 ?_ _)); refine blk_far ?_ NB182_199.out _; (with_reducible repeat (first | refine b1 ?_ _ | refine b2 ?_ | refine b3 ?_ _)); exact BK182.out⟩
               have n1_ : Aside0 ((((w50.setCell ⟨gb199, 0, none⟩ (.int .i64 t195)).setCell ⟨gb199, 1, none⟩ (.int .i64 t196)).setCell ⟨gb199, 2, none⟩ (.int .i64 t197)).heap[gb192]? = some (.cells #[.int .i64 t188, .int .i64 t189, .int .i64 t190] 25 (0, 0))) := ⟨by (with_reducible repeat (first | refine b1 ?_ _ | refine b2 ?_ | refine b3 ?_ _)); refine blk_far ?_ NB192_199.out _; (with_reducible repeat (first | refine b1 ?_ _ | refine b2 ?_ | refine b3 ?_ _)); refine blk_far ?_ NB192_199.out _; (with_reducible repeat (first | refine b1 ?_ _ | refine b2 ?_ | refine b3 ?_ _)); refine blk_far ?_ NB192_199.out _; (with_reducible repeat (first | refine b1 ?_ _ | refine b2 ?_ | refine b3 ?_ _)); exact BK192.out⟩
               have n2_ : Aside0 ((((w50.setCell ⟨gb199, 0, none⟩ (.int .i64 t195)).setCell ⟨gb199, 1, none⟩ (.int .i64 t196)).setCell ⟨gb199, 2, none⟩ (.int .i64 t197)).heap[gb199]? = some (.cells #[.int .i64 t195, .int .i64 t196, .int .i64 t197] 25 (0, 0))) := ⟨by (with_reducible repeat (first | refine b1 ?_ _ | refine b2 ?_ | refine b3 ?_ _)); refine blk_put (cs := #[.int .i64 t195, .int .i64 t196, .int .i64 0]) ?_ 2 _ rfl; (with_reducible repeat (first | refine b1 ?_ _ | refine b2 ?_ | refine b3 ?_ _)); refine blk_put (cs := #[.int .i64 t195, .int .i64 0, .int .i64 0]) ?_ 1 _ rfl; (with_reducible repeat (first | refine b1 ?_ _ | refine b2 ?_ | refine b3 ?_ _)); refine blk_put (cs := #[.int .i64 0, .int .i64 0, .int .i64 0]) ?_ 0 _ rfl; (with_reducible repeat (first | refine b1 ?_ _ | refine b2 ?_ | refine b3 ?_ _)); exact BK199.out⟩
               have n3_ : Aside0 (Below w.heap.size w (((w50.setCell ⟨gb199, 0, none⟩ (.int .i64 t195)).setCell ⟨gb199, 1, none⟩ (.int .i64 t196)).setCell ⟨gb199, 2, none⟩ (.int .i64 t197))) := ⟨by repeat (first | (with_reducible first | exact HB.out | apply b5 | apply b4 | apply b6 | refine b7 ?_ GE182.out | refine b7 ?_ GE192.out | refine b7 ?_ GE199.out) | exact HB.out)⟩
               (try clear BK182)
               (try clear BK192)
               (try clear BK199)
               (try clear HB)
               generalize (((w50.setCell ⟨gb199, 0, none⟩ (.int .i64 t195)).setCell ⟨gb199, 1, none⟩ (.int .i64 t196)).setCell ⟨gb199, 2, none⟩ (.int .i64 t197)) = w54 at n0_ n1_ n2_ n3_ ⊢
               have BK182 := n0_
               have BK192 := n1_
               have BK199 := n2_
               have HB := n3_
               clear n0_ n1_ n2_ n3_
               have n0_ := Am (b2 BK182.out)
               have n1_ := Am (b2 BK192.out)
               have n2_ := Am (b2 BK199.out)
               have n3_ := Am (b6 HB.out)
               clear BK182
               clear BK192
               clear BK199
               clear HB
               have BK182 := n0_
               have BK192 := n1_
               have BK199 := n2_
               have HB := n3_
               clear n0_ n1_ n2_ n3_
               refine start_ (n := 44) (S := fun w' => w'.cell? ⟨gb192, 0, none⟩ = some (.int .i64 t188) ∧ w'.cell? ⟨gb192, 1, none⟩ = some (.int .i64 t189) ∧ w'.cell? ⟨gb192, 2, none⟩ = some (.int .i64 t190) ∧ w'.cell? ⟨gb199, 0, none⟩ = some (.int .i64 t195) ∧ w'.cell? ⟨gb199, 1, none⟩ = some (.int .i64 t196) ∧ w'.cell? ⟨gb199, 2, none⟩ = some (.int .i64 t197) ∧ w'.cell? ⟨gb182, 0, none⟩ = some (.int .i64 t179) ∧ w'.cell? ⟨gb182, 1, none⟩ = some (.int .i64 t180) ∧ w'.cell? ⟨gb182, 2, none⟩ = some (.int .i64 t181)) (ds := []) #[F,F,F,F,F,F,F,F,F,F,F,F,F,F,F,F,F,F,F,F,F,F,F,F,F,F,F,F,F,F,F,F,F,F,F,F,F,F,F,F,F,F,F,F] (by kernel_rfl) rfl rfl ⟨(b8 BK192.out 0).trans rfl, (b8 BK192.out 1).trans rfl, (b8 BK192.out 2).trans rfl, (b8 BK199.out 0).trans rfl, (b8 BK199.out 1).trans rfl, (b8 BK199.out 2).trans rfl, (b8 BK182.out 0).trans rfl, (b8 BK182.out 1).trans rfl, (b8 BK182.out 2).trans rfl⟩ (fun hHeld => ?_); refine with_tabW laws_FnAccounts.tab13 laws_FnAccounts.bits13 (fun HT_ HW_ => ?_)
               generalize w54.drew = w55 at BK182 BK192 BK199 HB hHeld ⊢
               refine pure_ (i := 0) (N := some 56) (v := ?_) (a' := ?_) #[T,F,F,F,F,F,F,F,F,F,F,F,F,F,F,F,F,F,F,F,F,F,F,F,F,F,F,F,F,F,F,F,F,F,F,F,F,F,F,F,F,F,F,F] rfl rfl (any_of HT_.out (by kernel_rfl)) (fun _ _ _ h => h) (Or.inl ⟨by rfl, ?_⟩) ?_ ?_
               rotate_left; intro w'; go_simp; with_reducible rfl; rotate_left; simp only [Act.put, zA, zB, zC, i64_w, i32_w]; rfl
               refine pure_ (i := 1) (N := some 57) (v := ?_) (a' := ?_) #[T,T,F,F,F,F,F,F,F,F,F,F,F,F,F,F,F,F,F,F,F,F,F,F,F,F,F,F,F,F,F,F,F,F,F,F,F,F,F,F,F,F,F,F] rfl rfl (any_of HT_.out (by kernel_rfl)) (fun _ _ _ h => h) (Or.inl ⟨by rfl, ?_⟩) ?_ ?_
               rotate_left; intro w'; go_simp; with_reducible rfl; rotate_left; simp only [Act.put, zA, zB, zC, i64_w, i32_w]; rfl
               refine take_ (i := 2) (N := some 58) (v := ?_) (a' := ?_) #[T,T,T,F,F,F,F,F,F,F,F,F,F,F,F,F,F,F,F,F,F,F,F,F,F,F,F,F,F,F,F,F,F,F,F,F,F,F,F,F,F,F,F,F] rfl rfl (take_ofW HT_.out HW_.out (by kernel_rfl)) (fun _ _ _ h => h) (Or.inl ⟨by rfl, ?_⟩) hHeld ?_ ?_
               rotate_left; rintro w' ⟨s0, s1, s2, s3, s4, s5, s6, s7, s8⟩; go_simp; with_reducible rfl; rotate_left; simp only [Act.put, zA, zB, zC, i64_w, i32_w]; rfl
               refine one_ (i := 3) (N := some 59) #[T,T,T,T,F,F,F,F,F,F,F,F,F,F,F,F,F,F,F,F,F,F,F,F,F,F,F,F,F,F,F,F,F,F,F,F,F,F,F,F,F,F,F,F] rfl rfl (one_of HT_.out (by kernel_rfl)) (by decide) (fun K hK => ?_)
               refine goes_ Try.func19 (by kernel_rfl) rfl #[.agg #[.int .i64 t188, .int .i64 t189, .int .i64 t190]] (by rfl) rfl rfl (by (try simp only [List.map_toArray, List.map_cons, List.map_nil]); first | done | rfl | (simp only [List.length_drop, List.length_take]; rfl)) ?_
               with_reducible refine (impl_AccountOk.calls t188 t189 t190 true _ A36.out).mono ?_
               rintro e w56 ⟨rfl, hb⟩
               refine ⟨_, rfl, ?_⟩
               have n0_ := Am (blk_below (g := gb182) (o := .cells #[.int .i64 t179, .int .i64 t180, .int .i64 t181] 25 (0, 0)) (by (with_reducible repeat (first | refine b1 ?_ _ | refine b2 ?_ | refine b3 ?_ _)); exact BK182.out) hb)
               have n1_ := Am (blk_below (g := gb192) (o := .cells #[.int .i64 t188, .int .i64 t189, .int .i64 t190] 25 (0, 0)) (by (with_reducible repeat (first | refine b1 ?_ _ | refine b2 ?_ | refine b3 ?_ _)); exact BK192.out) hb)
               have n2_ := Am (blk_below (g := gb199) (o := .cells #[.int .i64 t195, .int .i64 t196, .int .i64 t197] 25 (0, 0)) (by (with_reducible repeat (first | refine b1 ?_ _ | refine b2 ?_ | refine b3 ?_ _)); exact BK199.out) hb)
               have n3_ := Am (below_step (by repeat (first | (with_reducible first | exact HB.out | apply b5 | apply b4 | apply b6 | refine b7 ?_ GE182.out | refine b7 ?_ GE192.out | refine b7 ?_ GE199.out) | exact HB.out)) hb)
               clear BK182
               clear BK192
               clear BK199
               clear HB
               have BK182 := n0_
               have BK192 := n1_
               have BK199 := n2_
               have HB := n3_
               clear n0_ n1_ n2_ n3_
               (try clear hb)
               (try clear hb2)
               (try clear hk)
               (try clear hi)
               refine hK.out _ _ ⟨(b8 BK192.out 0).trans rfl, (b8 BK192.out 1).trans rfl, (b8 BK192.out 2).trans rfl, (b8 BK199.out 0).trans rfl, (b8 BK199.out 1).trans rfl, (b8 BK199.out 2).trans rfl, (b8 BK182.out 0).trans rfl, (b8 BK182.out 1).trans rfl, (b8 BK182.out 2).trans rfl⟩ (fun hHeld => ?_)
               clear hK K
               refine norm_ (a' := ?_) ?_ ?_
               rotate_left
               ·show Act.put _ (some 59) _ = _
                simp only [Act.put, zA, zB, zC, i64_w, i32_w]
                rfl
               refine pure_ (i := 4) (N := some 60) (v := ?_) (a' := ?_) #[T,T,T,T,T,F,F,F,F,F,F,F,F,F,F,F,F,F,F,F,F,F,F,F,F,F,F,F,F,F,F,F,F,F,F,F,F,F,F,F,F,F,F,F] rfl rfl (any_of HT_.out (by kernel_rfl)) (fun _ _ _ h => h) (Or.inl ⟨by rfl, ?_⟩) ?_ ?_
               rotate_left; intro w'; go_simp; with_reducible rfl; rotate_left; simp only [Act.put, zA, zB, zC, i64_w, i32_w]; rfl
               refine pure_ (i := 5) (N := some 61) (v := ?_) (a' := ?_) #[T,T,T,T,T,T,F,F,F,F,F,F,F,F,F,F,F,F,F,F,F,F,F,F,F,F,F,F,F,F,F,F,F,F,F,F,F,F,F,F,F,F,F,F] rfl rfl (any_of HT_.out (by kernel_rfl)) (fun _ _ _ h => h) (Or.inl ⟨by rfl, ?_⟩) ?_ ?_
               rotate_left; intro w'; go_simp; with_reducible rfl; rotate_left; simp only [Act.put, zA, zB, zC, i64_w, i32_w]; rfl
               refine take_ (i := 6) (N := some 62) (v := ?_) (a' := ?_) #[T,T,T,T,T,T,T,F,F,F,F,F,F,F,F,F,F,F,F,F,F,F,F,F,F,F,F,F,F,F,F,F,F,F,F,F,F,F,F,F,F,F,F,F] rfl rfl (take_ofW HT_.out HW_.out (by kernel_rfl)) (fun _ _ _ h => h) (Or.inl ⟨by rfl, ?_⟩) hHeld ?_ ?_
               rotate_left; rintro w' ⟨s0, s1, s2, s3, s4, s5, s6, s7, s8⟩; go_simp; with_reducible rfl; rotate_left; simp only [Act.put, zA, zB, zC, i64_w, i32_w]; rfl
               refine one_ (i := 7) (N := some 63) #[T,T,T,T,T,T,T,T,F,F,F,F,F,F,F,F,F,F,F,F,F,F,F,F,F,F,F,F,F,F,F,F,F,F,F,F,F,F,F,F,F,F,F,F] rfl rfl (one_of HT_.out (by kernel_rfl)) (by decide) (fun K hK => ?_)
               refine goes_ Try.func19 (by kernel_rfl) rfl #[.agg #[.int .i64 t195, .int .i64 t196, .int .i64 t197]] (by rfl) rfl rfl (by (try simp only [List.map_toArray, List.map_cons, List.map_nil]); first | done | rfl | (simp only [List.length_drop, List.length_take]; rfl)) ?_
               with_reducible refine (impl_AccountOk.calls t195 t196 t197 true _ A38.out).mono ?_
               rintro e w57 ⟨rfl, hb⟩
               refine ⟨_, rfl, ?_⟩
               have n0_ := Am (blk_below (g := gb182) (o := .cells #[.int .i64 t179, .int .i64 t180, .int .i64 t181] 25 (0, 0)) (by (with_reducible repeat (first | refine b1 ?_ _ | refine b2 ?_ | refine b3 ?_ _)); exact BK182.out) hb)
               have n1_ := Am (blk_below (g := gb192) (o := .cells #[.int .i64 t188, .int .i64 t189, .int .i64 t190] 25 (0, 0)) (by (with_reducible repeat (first | refine b1 ?_ _ | refine b2 ?_ | refine b3 ?_ _)); exact BK192.out) hb)
               have n2_ := Am (blk_below (g := gb199) (o := .cells #[.int .i64 t195, .int .i64 t196, .int .i64 t197] 25 (0, 0)) (by (with_reducible repeat (first | refine b1 ?_ _ | refine b2 ?_ | refine b3 ?_ _)); exact BK199.out) hb)
               have n3_ := Am (below_step (by repeat (first | (with_reducible first | exact HB.out | apply b5 | apply b4 | apply b6 | refine b7 ?_ GE182.out | refine b7 ?_ GE192.out | refine b7 ?_ GE199.out) | exact HB.out)) hb)
               clear BK182
               clear BK192
               clear BK199
               clear HB
               have BK182 := n0_
               have BK192 := n1_
               have BK199 := n2_
               have HB := n3_
               clear n0_ n1_ n2_ n3_
               (try clear hb)
               (try clear hb2)
               (try clear hk)
               (try clear hi)
               refine hK.out _ _ ⟨(b8 BK192.out 0).trans rfl, (b8 BK192.out 1).trans rfl, (b8 BK192.out 2).trans rfl, (b8 BK199.out 0).trans rfl, (b8 BK199.out 1).trans rfl, (b8 BK199.out 2).trans rfl, (b8 BK182.out 0).trans rfl, (b8 BK182.out 1).trans rfl, (b8 BK182.out 2).trans rfl⟩ (fun hHeld => ?_)
               clear hK K
               refine norm_ (a' := ?_) ?_ ?_
               rotate_left
               ·show Act.put _ (some 63) _ = _
                simp only [Act.put, zA, zB, zC, i64_w, i32_w]
                rfl
               refine pure_ (i := 8) (N := some 64) (v := ?_) (a' := ?_) #[T,T,T,T,T,T,T,T,T,F,F,F,F,F,F,F,F,F,F,F,F,F,F,F,F,F,F,F,F,F,F,F,F,F,F,F,F,F,F,F,F,F,F,F] rfl rfl (any_of HT_.out (by kernel_rfl)) (fun _ _ _ h => h) (Or.inl ⟨by rfl, ?_⟩) ?_ ?_
               rotate_left; intro w'; go_simp; with_reducible rfl; rotate_left; simp only [Act.put, zA, zB, zC, i64_w, i32_w]; rfl
               refine pure_ (i := 9) (N := some 65) (v := ?_) (a' := ?_) #[T,T,T,T,T,T,T,T,T,T,F,F,F,F,F,F,F,F,F,F,F,F,F,F,F,F,F,F,F,F,F,F,F,F,F,F,F,F,F,F,F,F,F,F] rfl rfl (any_of HT_.out (by kernel_rfl)) (fun _ _ _ h => h) (Or.inl ⟨by rfl, ?_⟩) ?_ ?_
               rotate_left; intro w'; go_simp; with_reducible rfl; rotate_left; simp only [Act.put, zA, zB, zC, i64_w, i32_w]; rfl
               refine pure_ (i := 14) (N := some 70) (v := ?_) (a' := ?_) #[T,T,T,T,T,T,T,T,T,T,F,F,F,F,T,F,F,F,F,F,F,F,F,F,F,F,F,F,F,F,F,F,F,F,F,F,F,F,F,F,F,F,F,F] rfl rfl (any_of HT_.out (by kernel_rfl)) (fun _ _ _ h => h) (Or.inl ⟨by rfl, ?_⟩) ?_ ?_
               rotate_left; intro w'; go_simp; with_reducible rfl; rotate_left; simp only [Act.put, zA, zB, zC, i64_w, i32_w]; rfl
               refine take_ (i := 10) (N := some 66) (v := ?_) (a' := ?_) #[T,T,T,T,T,T,T,T,T,T,T,F,F,F,T,F,F,F,F,F,F,F,F,F,F,F,F,F,F,F,F,F,F,F,F,F,F,F,F,F,F,F,F,F] rfl rfl (take_ofW HT_.out HW_.out (by kernel_rfl)) (fun _ _ _ h => h) (Or.inl ⟨by rfl, ?_⟩) hHeld ?_ ?_
               rotate_left; rintro w' ⟨s0, s1, s2, s3, s4, s5, s6, s7, s8⟩; go_simp; with_reducible rfl; rotate_left; simp only [Act.put, zA, zB, zC, i64_w, i32_w]; rfl
               refine take_ (i := 12) (N := some 68) (v := ?_) (a' := ?_) #[T,T,T,T,T,T,T,T,T,T,T,F,T,F,T,F,F,F,F,F,F,F,F,F,F,F,F,F,F,F,F,F,F,F,F,F,F,F,F,F,F,F,F,F] rfl rfl (take_ofW HT_.out HW_.out (by kernel_rfl)) (fun _ _ _ h => h) (Or.inl ⟨by rfl, ?_⟩) hHeld ?_ ?_
               rotate_left; rintro w' ⟨s0, s1, s2, s3, s4, s5, s6, s7, s8⟩; go_simp; with_reducible rfl; rotate_left; simp only [Act.put, zA, zB, zC, i64_w, i32_w]; rfl
               refine one_ (i := 11) (N := some 67) #[T,T,T,T,T,T,T,T,T,T,T,T,T,F,T,F,F,F,F,F,F,F,F,F,F,F,F,F,F,F,F,F,F,F,F,F,F,F,F,F,F,F,F,F] rfl rfl (one_of HT_.out (by kernel_rfl)) (by decide) (fun K hK => ?_)
               refine goes_ Try.func20 (by kernel_rfl) rfl #[.agg #[.int .i64 t188, .int .i64 t189, .int .i64 t190]] (by rfl) rfl rfl (by (try simp only [List.map_toArray, List.map_cons, List.map_nil]); first | done | rfl | (simp only [List.length_drop, List.length_take]; rfl)) ?_
               with_reducible refine (impl_FreeSheets.calls t188 t189 t190 t202 _ A40.out).mono ?_
               rintro e w58 ⟨rfl, hb⟩
               refine ⟨_, rfl, ?_⟩
               have n0_ := Am (blk_below (g := gb182) (o := .cells #[.int .i64 t179, .int .i64 t180, .int .i64 t181] 25 (0, 0)) (by (with_reducible repeat (first | refine b1 ?_ _ | refine b2 ?_ | refine b3 ?_ _)); exact BK182.out) hb)
               have n1_ := Am (blk_below (g := gb192) (o := .cells #[.int .i64 t188, .int .i64 t189, .int .i64 t190] 25 (0, 0)) (by (with_reducible repeat (first | refine b1 ?_ _ | refine b2 ?_ | refine b3 ?_ _)); exact BK192.out) hb)
               have n2_ := Am (blk_below (g := gb199) (o := .cells #[.int .i64 t195, .int .i64 t196, .int .i64 t197] 25 (0, 0)) (by (with_reducible repeat (first | refine b1 ?_ _ | refine b2 ?_ | refine b3 ?_ _)); exact BK199.out) hb)
               have n3_ := Am (below_step (by repeat (first | (with_reducible first | exact HB.out | apply b5 | apply b4 | apply b6 | refine b7 ?_ GE182.out | refine b7 ?_ GE192.out | refine b7 ?_ GE199.out) | exact HB.out)) hb)
               clear BK182
               clear BK192
               clear BK199
               clear HB
               have BK182 := n0_
               have BK192 := n1_
               have BK199 := n2_
               have HB := n3_
               clear n0_ n1_ n2_ n3_
               (try clear hb)
               (try clear hb2)
               (try clear hk)
               (try clear hi)
               refine hK.out _ _ ⟨(b8 BK192.out 0).trans rfl, (b8 BK192.out 1).trans rfl, (b8 BK192.out 2).trans rfl, (b8 BK199.out 0).trans rfl, (b8 BK199.out 1).trans rfl, (b8 BK199.out 2).trans rfl, (b8 BK182.out 0).trans rfl, (b8 BK182.out 1).trans rfl, (b8 BK182.out 2).trans rfl⟩ (fun hHeld => ?_)
               clear hK K
               refine norm_ (a' := ?_) ?_ ?_
               rotate_left
               ·show Act.put _ (some 67) _ = _
                simp only [Act.put, zA, zB, zC, i64_w, i32_w]
                rfl
               refine one_ (i := 13) (N := some 69) #[T,T,T,T,T,T,T,T,T,T,T,T,T,T,T,F,F,F,F,F,F,F,F,F,F,F,F,F,F,F,F,F,F,F,F,F,F,F,F,F,F,F,F,F] rfl rfl (one_of HT_.out (by kernel_rfl)) (by decide) (fun K hK => ?_)
               refine goes_ Try.func20 (by kernel_rfl) rfl #[.agg #[.int .i64 t179, .int .i64 t180, .int .i64 t181]] (by rfl) rfl rfl (by (try simp only [List.map_toArray, List.map_cons, List.map_nil]); first | done | rfl | (simp only [List.length_drop, List.length_take]; rfl)) ?_
               with_reducible refine (impl_FreeSheets.calls t179 t180 t181 t203 _ A41.out).mono ?_
               rintro e w59 ⟨rfl, hb⟩
               refine ⟨_, rfl, ?_⟩
               have n0_ := Am (blk_below (g := gb182) (o := .cells #[.int .i64 t179, .int .i64 t180, .int .i64 t181] 25 (0, 0)) (by (with_reducible repeat (first | refine b1 ?_ _ | refine b2 ?_ | refine b3 ?_ _)); exact BK182.out) hb)
               have n1_ := Am (blk_below (g := gb192) (o := .cells #[.int .i64 t188, .int .i64 t189, .int .i64 t190] 25 (0, 0)) (by (with_reducible repeat (first | refine b1 ?_ _ | refine b2 ?_ | refine b3 ?_ _)); exact BK192.out) hb)
               have n2_ := Am (blk_below (g := gb199) (o := .cells #[.int .i64 t195, .int .i64 t196, .int .i64 t197] 25 (0, 0)) (by (with_reducible repeat (first | refine b1 ?_ _ | refine b2 ?_ | refine b3 ?_ _)); exact BK199.out) hb)
               have n3_ := Am (below_step (by repeat (first | (with_reducible first | exact HB.out | apply b5 | apply b4 | apply b6 | refine b7 ?_ GE182.out | refine b7 ?_ GE192.out | refine b7 ?_ GE199.out) | exact HB.out)) hb)
               clear BK182
               clear BK192
               clear BK199
               clear HB
               have BK182 := n0_
               have BK192 := n1_
               have BK199 := n2_
               have HB := n3_
               clear n0_ n1_ n2_ n3_
               (try clear hb)
               (try clear hb2)
               (try clear hk)
               (try clear hi)
               refine hK.out _ _ ⟨(b8 BK192.out 0).trans rfl, (b8 BK192.out 1).trans rfl, (b8 BK192.out 2).trans rfl, (b8 BK199.out 0).trans rfl, (b8 BK199.out 1).trans rfl, (b8 BK199.out 2).trans rfl, (b8 BK182.out 0).trans rfl, (b8 BK182.out 1).trans rfl, (b8 BK182.out 2).trans rfl⟩ (fun hHeld => ?_)
               clear hK K
               refine norm_ (a' := ?_) ?_ ?_
               rotate_left
               ·show Act.put _ (some 69) _ = _
                simp only [Act.put, zA, zB, zC, i64_w, i32_w]
                rfl
               refine pure_ (i := 15) (N := some 71) (v := ?_) (a' := ?_) #[T,T,T,T,T,T,T,T,T,T,T,T,T,T,T,T,F,F,F,F,F,F,F,F,F,F,F,F,F,F,F,F,F,F,F,F,F,F,F,F,F,F,F,F] rfl rfl (any_of HT_.out (by kernel_rfl)) (fun _ _ _ h => h) (Or.inl ⟨by rfl, ?_⟩) ?_ ?_
               rotate_left; intro w'; go_simp; with_reducible rfl; rotate_left; simp only [Act.put, zA, zB, zC, i64_w, i32_w]; rfl
               refine pure_ (i := 16) (N := some 72) (v := ?_) (a' := ?_) #[T,T,T,T,T,T,T,T,T,T,T,T,T,T,T,T,T,F,F,F,F,F,F,F,F,F,F,F,F,F,F,F,F,F,F,F,F,F,F,F,F,F,F,F] rfl rfl (any_of HT_.out (by kernel_rfl)) (fun _ _ _ h => h) (Or.inl ⟨by rfl, ?_⟩) ?_ ?_
               rotate_left; intro w'; go_simp; with_reducible rfl; rotate_left; simp only [Act.put, zA, zB, zC, i64_w, i32_w]; rfl
               refine pure_ (i := 17) (N := some 73) (v := ?_) (a' := ?_) #[T,T,T,T,T,T,T,T,T,T,T,T,T,T,T,T,T,T,F,F,F,F,F,F,F,F,F,F,F,F,F,F,F,F,F,F,F,F,F,F,F,F,F,F] rfl rfl (any_of HT_.out (by kernel_rfl)) (fun _ _ _ h => h) (Or.inl ⟨by rfl, ?_⟩) ?_ ?_
               rotate_left; intro w'; go_simp; with_reducible rfl; rotate_left; simp only [Act.put, zA, zB, zC, i64_w, i32_w]; rfl
               refine pure_ (i := 18) (N := some 74) (v := ?_) (a' := ?_) #[T,T,T,T,T,T,T,T,T,T,T,T,T,T,T,T,T,T,T,F,F,F,F,F,F,F,F,F,F,F,F,F,F,F,F,F,F,F,F,F,F,F,F,F] rfl rfl (any_of HT_.out (by kernel_rfl)) (fun _ _ _ h => h) (Or.inl ⟨by rfl, ?_⟩) ?_ ?_
               rotate_left; intro w'; go_simp; with_reducible rfl; rotate_left; simp only [Act.put, zA, zB, zC, i64_w, i32_w]; rfl
               refine pure_ (i := 23) (N := some 79) (v := ?_) (a' := ?_) #[T,T,T,T,T,T,T,T,T,T,T,T,T,T,T,T,T,T,T,F,F,F,F,T,F,F,F,F,F,F,F,F,F,F,F,F,F,F,F,F,F,F,F,F] rfl rfl (any_of HT_.out (by kernel_rfl)) (fun _ _ _ h => h) (Or.inl ⟨by rfl, ?_⟩) ?_ ?_
               rotate_left; intro w'; go_simp; with_reducible rfl; rotate_left; simp only [Act.put, zA, zB, zC, i64_w, i32_w]; rfl
               refine take_ (i := 19) (N := some 75) (v := ?_) (a' := ?_) #[T,T,T,T,T,T,T,T,T,T,T,T,T,T,T,T,T,T,T,T,F,F,F,T,F,F,F,F,F,F,F,F,F,F,F,F,F,F,F,F,F,F,F,F] rfl rfl (take_ofW HT_.out HW_.out (by kernel_rfl)) (fun _ _ _ h => h) (Or.inl ⟨by rfl, ?_⟩) hHeld ?_ ?_
               rotate_left; rintro w' ⟨s0, s1, s2, s3, s4, s5, s6, s7, s8⟩; go_simp; with_reducible rfl; rotate_left; simp only [Act.put, zA, zB, zC, i64_w, i32_w]; rfl
               refine take_ (i := 21) (N := some 77) (v := ?_) (a' := ?_) #[T,T,T,T,T,T,T,T,T,T,T,T,T,T,T,T,T,T,T,T,F,T,F,T,F,F,F,F,F,F,F,F,F,F,F,F,F,F,F,F,F,F,F,F] rfl rfl (take_ofW HT_.out HW_.out (by kernel_rfl)) (fun _ _ _ h => h) (Or.inl ⟨by rfl, ?_⟩) hHeld ?_ ?_
               rotate_left; rintro w' ⟨s0, s1, s2, s3, s4, s5, s6, s7, s8⟩; go_simp; with_reducible rfl; rotate_left; simp only [Act.put, zA, zB, zC, i64_w, i32_w]; rfl
               refine one_ (i := 20) (N := some 76) #[T,T,T,T,T,T,T,T,T,T,T,T,T,T,T,T,T,T,T,T,T,T,F,T,F,F,F,F,F,F,F,F,F,F,F,F,F,F,F,F,F,F,F,F] rfl rfl (one_of HT_.out (by kernel_rfl)) (by decide) (fun K hK => ?_)
               refine goes_ Try.func20 (by kernel_rfl) rfl #[.agg #[.int .i64 t195, .int .i64 t196, .int .i64 t197]] (by rfl) rfl rfl (by (try simp only [List.map_toArray, List.map_cons, List.map_nil]); first | done | rfl | (simp only [List.length_drop, List.length_take]; rfl)) ?_
               with_reducible refine (impl_FreeSheets.calls t195 t196 t197 t204 _ A43.out).mono ?_
               rintro e w60 ⟨rfl, hb⟩
               refine ⟨_, rfl, ?_⟩
               have n0_ := Am (blk_below (g := gb182) (o := .cells #[.int .i64 t179, .int .i64 t180, .int .i64 t181] 25 (0, 0)) (by (with_reducible repeat (first | refine b1 ?_ _ | refine b2 ?_ | refine b3 ?_ _)); exact BK182.out) hb)
               have n1_ := Am (blk_below (g := gb192) (o := .cells #[.int .i64 t188, .int .i64 t189, .int .i64 t190] 25 (0, 0)) (by (with_reducible repeat (first | refine b1 ?_ _ | refine b2 ?_ | refine b3 ?_ _)); exact BK192.out) hb)
               have n2_ := Am (blk_below (g := gb199) (o := .cells #[.int .i64 t195, .int .i64 t196, .int .i64 t197] 25 (0, 0)) (by (with_reducible repeat (first | refine b1 ?_ _ | refine b2 ?_ | refine b3 ?_ _)); exact BK199.out) hb)
               have n3_ := Am (below_step (by repeat (first | (with_reducible first | exact HB.out | apply b5 | apply b4 | apply b6 | refine b7 ?_ GE182.out | refine b7 ?_ GE192.out | refine b7 ?_ GE199.out) | exact HB.out)) hb)
               clear BK182
               clear BK192
               clear BK199
               clear HB
               have BK182 := n0_
               have BK192 := n1_
               have BK199 := n2_
               have HB := n3_
               clear n0_ n1_ n2_ n3_
               (try clear hb)
               (try clear hb2)
               (try clear hk)
               (try clear hi)
               refine hK.out _ _ ⟨(b8 BK192.out 0).trans rfl, (b8 BK192.out 1).trans rfl, (b8 BK192.out 2).trans rfl, (b8 BK199.out 0).trans rfl, (b8 BK199.out 1).trans rfl, (b8 BK199.out 2).trans rfl, (b8 BK182.out 0).trans rfl, (b8 BK182.out 1).trans rfl, (b8 BK182.out 2).trans rfl⟩ (fun hHeld => ?_)
               clear hK K
               refine norm_ (a' := ?_) ?_ ?_
               rotate_left
               ·show Act.put _ (some 76) _ = _
                simp only [Act.put, zA, zB, zC, i64_w, i32_w]
                rfl
               refine one_ (i := 22) (N := some 78) #[T,T,T,T,T,T,T,T,T,T,T,T,T,T,T,T,T,T,T,T,T,T,T,T,F,F,F,F,F,F,F,F,F,F,F,F,F,F,F,F,F,F,F,F] rfl rfl (one_of HT_.out (by kernel_rfl)) (by decide) (fun K hK => ?_)
               refine goes_ Try.func20 (by kernel_rfl) rfl #[.agg #[.int .i64 t179, .int .i64 t180, .int .i64 t181]] (by rfl) rfl rfl (by (try simp only [List.map_toArray, List.map_cons, List.map_nil]); first | done | rfl | (simp only [List.length_drop, List.length_take]; rfl)) ?_
               with_reducible refine (impl_FreeSheets.calls t179 t180 t181 t205 _ A44.out).mono ?_
               rintro e w61 ⟨rfl, hb⟩
               refine ⟨_, rfl, ?_⟩
               have n0_ := Am (blk_below (g := gb182) (o := .cells #[.int .i64 t179, .int .i64 t180, .int .i64 t181] 25 (0, 0)) (by (with_reducible repeat (first | refine b1 ?_ _ | refine b2 ?_ | refine b3 ?_ _)); exact BK182.out) hb)
               have n1_ := Am (blk_below (g := gb192) (o := .cells #[.int .i64 t188, .int .i64 t189, .int .i64 t190] 25 (0, 0)) (by (with_reducible repeat (first | refine b1 ?_ _ | refine b2 ?_ | refine b3 ?_ _)); exact BK192.out) hb)
               have n2_ := Am (blk_below (g := gb199) (o := .cells #[.int .i64 t195, .int .i64 t196, .int .i64 t197] 25 (0, 0)) (by (with_reducible repeat (first | refine b1 ?_ _ | refine b2 ?_ | refine b3 ?_ _)); exact BK199.out) hb)
               have n3_ := Am (below_step (by repeat (first | (with_reducible first | exact HB.out | apply b5 | apply b4 | apply b6 | refine b7 ?_ GE182.out | refine b7 ?_ GE192.out | refine b7 ?_ GE199.out) | exact HB.out)) hb)
               clear BK182
               clear BK192
               clear BK199
               clear HB
               have BK182 := n0_
               have BK192 := n1_
               have BK199 := n2_
               have HB := n3_
               clear n0_ n1_ n2_ n3_
               (try clear hb)
               (try clear hb2)
               (try clear hk)
               (try clear hi)
               refine hK.out _ _ ⟨(b8 BK192.out 0).trans rfl, (b8 BK192.out 1).trans rfl, (b8 BK192.out 2).trans rfl, (b8 BK199.out 0).trans rfl, (b8 BK199.out 1).trans rfl, (b8 BK199.out 2).trans rfl, (b8 BK182.out 0).trans rfl, (b8 BK182.out 1).trans rfl, (b8 BK182.out 2).trans rfl⟩ (fun hHeld => ?_)
               clear hK K
               refine norm_ (a' := ?_) ?_ ?_
               rotate_left
               ·show Act.put _ (some 78) _ = _
                simp only [Act.put, zA, zB, zC, i64_w, i32_w]
                rfl
               refine pure_ (i := 24) (N := some 80) (v := ?_) (a' := ?_) #[T,T,T,T,T,T,T,T,T,T,T,T,T,T,T,T,T,T,T,T,T,T,T,T,T,F,F,F,F,F,F,F,F,F,F,F,F,F,F,F,F,F,F,F] rfl rfl (any_of HT_.out (by kernel_rfl)) (fun _ _ _ h => h) (Or.inl ⟨by rfl, ?_⟩) ?_ ?_
               rotate_left; intro w'; go_simp; with_reducible rfl; rotate_left; simp only [Act.put, zA, zB, zC, i64_w, i32_w]; rfl
               refine pure_ (i := 25) (N := some 81) (v := ?_) (a' := ?_) #[T,T,T,T,T,T,T,T,T,T,T,T,T,T,T,T,T,T,T,T,T,T,T,T,T,T,F,F,F,F,F,F,F,F,F,F,F,F,F,F,F,F,F,F] rfl rfl (any_of HT_.out (by kernel_rfl)) (fun _ _ _ h => h) (Or.inl ⟨by rfl, ?_⟩) ?_ ?_
               rotate_left; intro w'; go_simp; with_reducible rfl; rotate_left; simp only [Act.put, zA, zB, zC, i64_w, i32_w]; rfl
               refine pure_ (i := 26) (N := some 82) (v := ?_) (a' := ?_) #[T,T,T,T,T,T,T,T,T,T,T,T,T,T,T,T,T,T,T,T,T,T,T,T,T,T,T,F,F,F,F,F,F,F,F,F,F,F,F,F,F,F,F,F] rfl rfl (any_of HT_.out (by kernel_rfl)) (fun _ _ _ h => h) (Or.inl ⟨by rfl, ?_⟩) ?_ ?_
               rotate_left; intro w'; go_simp; with_reducible rfl; rotate_left; simp only [Act.put, zA, zB, zC, i64_w, i32_w]; rfl
               refine pure_ (i := 27) (N := some 83) (v := ?_) (a' := ?_) #[T,T,T,T,T,T,T,T,T,T,T,T,T,T,T,T,T,T,T,T,T,T,T,T,T,T,T,T,F,F,F,F,F,F,F,F,F,F,F,F,F,F,F,F] rfl rfl (any_of HT_.out (by kernel_rfl)) (fun _ _ _ h => h) (Or.inl ⟨by rfl, ?_⟩) ?_ ?_
               rotate_left; intro w'; go_simp; with_reducible rfl; rotate_left; simp only [Act.put, zA, zB, zC, i64_w, i32_w]; rfl
               refine pure_ (i := 28) (N := some 84) (v := ?_) (a' := ?_) #[T,T,T,T,T,T,T,T,T,T,T,T,T,T,T,T,T,T,T,T,T,T,T,T,T,T,T,T,T,F,F,F,F,F,F,F,F,F,F,F,F,F,F,F] rfl rfl (any_of HT_.out (by kernel_rfl)) (fun _ _ _ h => h) (Or.inl ⟨by rfl, ?_⟩) ?_ ?_
               rotate_left; intro w'; go_simp; with_reducible rfl; rotate_left; simp only [Act.put, zA, zB, zC, i64_w, i32_w]; rfl
               refine pure_ (i := 30) (N := some 86) (v := ?_) (a' := ?_) #[T,T,T,T,T,T,T,T,T,T,T,T,T,T,T,T,T,T,T,T,T,T,T,T,T,T,T,T,T,F,T,F,F,F,F,F,F,F,F,F,F,F,F,F] rfl rfl (any_of HT_.out (by kernel_rfl)) (fun _ _ _ h => h) (Or.inl ⟨by rfl, ?_⟩) ?_ ?_
               rotate_left; intro w'; go_simp; with_reducible rfl; rotate_left; simp only [Act.put, zA, zB, zC, i64_w, i32_w]; rfl
               refine take_ (i := 29) (N := some 85) (v := ?_) (a' := ?_) #[T,T,T,T,T,T,T,T,T,T,T,T,T,T,T,T,T,T,T,T,T,T,T,T,T,T,T,T,T,T,T,F,F,F,F,F,F,F,F,F,F,F,F,F] rfl rfl (take_ofW HT_.out HW_.out (by kernel_rfl)) (fun _ _ _ h => h) (Or.inl ⟨by rfl, ?_⟩) hHeld ?_ ?_
               rotate_left; rintro w' ⟨s0, s1, s2, s3, s4, s5, s6, s7, s8⟩; go_simp; with_reducible rfl; rotate_left; simp only [Act.put, zA, zB, zC, i64_w, i32_w]; rfl
               refine take_ (i := 31) (N := some 87) (v := ?_) (a' := ?_) #[T,T,T,T,T,T,T,T,T,T,T,T,T,T,T,T,T,T,T,T,T,T,T,T,T,T,T,T,T,T,T,T,F,F,F,F,F,F,F,F,F,F,F,F] rfl rfl (take_ofW HT_.out HW_.out (by kernel_rfl)) (fun _ _ _ h => h) (Or.inl ⟨by rfl, ?_⟩) hHeld ?_ ?_
               rotate_left; rintro w' ⟨s0, s1, s2, s3, s4, s5, s6, s7, s8⟩; go_simp; with_reducible rfl; rotate_left; simp only [Act.put, zA, zB, zC, i64_w, i32_w]; rfl
               refine pure_ (i := 32) (N := some 88) (v := ?_) (a' := ?_) #[T,T,T,T,T,T,T,T,T,T,T,T,T,T,T,T,T,T,T,T,T,T,T,T,T,T,T,T,T,T,T,T,T,F,F,F,F,F,F,F,F,F,F,F] rfl rfl (any_of HT_.out (by kernel_rfl)) (fun _ _ _ h => h) (Or.inl ⟨by rfl, ?_⟩) ?_ ?_
               rotate_left; intro w'; go_simp; with_reducible rfl; rotate_left; simp only [Act.put, zA, zB, zC, i64_w, i32_w]; rfl
               refine pure_ (i := 33) (N := some 89) (v := ?_) (a' := ?_) #[T,T,T,T,T,T,T,T,T,T,T,T,T,T,T,T,T,T,T,T,T,T,T,T,T,T,T,T,T,T,T,T,T,T,F,F,F,F,F,F,F,F,F,F] rfl rfl (any_of HT_.out (by kernel_rfl)) (fun _ _ _ h => h) (Or.inl ⟨by rfl, ?_⟩) ?_ ?_
               rotate_left; intro w'; go_simp; with_reducible rfl; rotate_left; simp only [Act.put, zA, zB, zC, i64_w, i32_w]; rfl
               refine pure_ (i := 34) (N := some 90) (v := ?_) (a' := ?_) #[T,T,T,T,T,T,T,T,T,T,T,T,T,T,T,T,T,T,T,T,T,T,T,T,T,T,T,T,T,T,T,T,T,T,T,F,F,F,F,F,F,F,F,F] rfl rfl (any_of HT_.out (by kernel_rfl)) (fun _ _ _ h => h) (Or.inl ⟨by rfl, ?_⟩) ?_ ?_
               rotate_left; intro w'; go_simp; with_reducible rfl; rotate_left; simp only [Act.put, zA, zB, zC, i64_w, i32_w]; rfl
               refine pure_ (i := 35) (N := some 91) (v := ?_) (a' := ?_) #[T,T,T,T,T,T,T,T,T,T,T,T,T,T,T,T,T,T,T,T,T,T,T,T,T,T,T,T,T,T,T,T,T,T,T,T,F,F,F,F,F,F,F,F] rfl rfl (any_of HT_.out (by kernel_rfl)) (fun _ _ _ h => h) (Or.inl ⟨by rfl, ?_⟩) ?_ ?_
               rotate_left; intro w'; go_simp; with_reducible rfl; rotate_left; simp only [Act.put, zA, zB, zC, i64_w, i32_w]; rfl
               refine pure_ (i := 37) (N := some 93) (v := ?_) (a' := ?_) #[T,T,T,T,T,T,T,T,T,T,T,T,T,T,T,T,T,T,T,T,T,T,T,T,T,T,T,T,T,T,T,T,T,T,T,T,F,T,F,F,F,F,F,F] rfl rfl (any_of HT_.out (by kernel_rfl)) (fun _ _ _ h => h) (Or.inl ⟨by rfl, ?_⟩) ?_ ?_
               rotate_left; intro w'; go_simp; with_reducible rfl; rotate_left; simp only [Act.put, zA, zB, zC, i64_w, i32_w]; rfl
               refine pure_ (i := 39) (N := some 95) (v := ?_) (a' := ?_) #[T,T,T,T,T,T,T,T,T,T,T,T,T,T,T,T,T,T,T,T,T,T,T,T,T,T,T,T,T,T,T,T,T,T,T,T,F,T,F,T,F,F,F,F] rfl rfl (any_of HT_.out (by kernel_rfl)) (fun _ _ _ h => h) (Or.inl ⟨by rfl, ?_⟩) ?_ ?_
               rotate_left; intro w'; go_simp; with_reducible rfl; rotate_left; simp only [Act.put, zA, zB, zC, i64_w, i32_w]; rfl
               refine take_ (i := 36) (N := some 92) (v := ?_) (a' := ?_) #[T,T,T,T,T,T,T,T,T,T,T,T,T,T,T,T,T,T,T,T,T,T,T,T,T,T,T,T,T,T,T,T,T,T,T,T,T,T,F,T,F,F,F,F] rfl rfl (take_ofW HT_.out HW_.out (by kernel_rfl)) (fun _ _ _ h => h) (Or.inl ⟨by rfl, ?_⟩) hHeld ?_ ?_
               rotate_left; rintro w' ⟨s0, s1, s2, s3, s4, s5, s6, s7, s8⟩; go_simp; with_reducible rfl; rotate_left; simp only [Act.put, zA, zB, zC, i64_w, i32_w]; rfl
               refine take_ (i := 38) (N := some 94) (v := ?_) (a' := ?_) #[T,T,T,T,T,T,T,T,T,T,T,T,T,T,T,T,T,T,T,T,T,T,T,T,T,T,T,T,T,T,T,T,T,T,T,T,T,T,T,T,F,F,F,F] rfl rfl (take_ofW HT_.out HW_.out (by kernel_rfl)) (fun _ _ _ h => h) (Or.inl ⟨by rfl, ?_⟩) hHeld ?_ ?_
               rotate_left; rintro w' ⟨s0, s1, s2, s3, s4, s5, s6, s7, s8⟩; go_simp; with_reducible rfl; rotate_left; simp only [Act.put, zA, zB, zC, i64_w, i32_w]; rfl
               refine pure_ (i := 40) (N := some 96) (v := ?_) (a' := ?_) #[T,T,T,T,T,T,T,T,T,T,T,T,T,T,T,T,T,T,T,T,T,T,T,T,T,T,T,T,T,T,T,T,T,T,T,T,T,T,T,T,T,F,F,F] rfl rfl (any_of HT_.out (by kernel_rfl)) (fun _ _ _ h => h) (Or.inl ⟨by rfl, ?_⟩) ?_ ?_
               rotate_left; intro w'; go_simp; with_reducible rfl; rotate_left; simp only [Act.put, zA, zB, zC, i64_w, i32_w]; rfl
               refine pure_ (i := 41) (N := some 97) (v := ?_) (a' := ?_) #[T,T,T,T,T,T,T,T,T,T,T,T,T,T,T,T,T,T,T,T,T,T,T,T,T,T,T,T,T,T,T,T,T,T,T,T,T,T,T,T,T,T,F,F] rfl rfl (any_of HT_.out (by kernel_rfl)) (fun _ _ _ h => h) (Or.inl ⟨by rfl, ?_⟩) ?_ ?_
               rotate_left; intro w'; go_simp; with_reducible rfl; rotate_left; simp only [Act.put, zA, zB, zC, i64_w, i32_w]; rfl
               refine pure_ (i := 42) (N := some 98) (v := ?_) (a' := ?_) #[T,T,T,T,T,T,T,T,T,T,T,T,T,T,T,T,T,T,T,T,T,T,T,T,T,T,T,T,T,T,T,T,T,T,T,T,T,T,T,T,T,T,T,F] rfl rfl (any_of HT_.out (by kernel_rfl)) (fun _ _ _ h => h) (Or.inl ⟨by rfl, ?_⟩) ?_ ?_
               rotate_left; intro w'; go_simp; with_reducible rfl; rotate_left; simp only [Act.put, zA, zB, zC, i64_w, i32_w]; rfl
               refine pure_ (i := 43) (N := some 2) (v := ?_) (a' := ?_) #[T,T,T,T,T,T,T,T,T,T,T,T,T,T,T,T,T,T,T,T,T,T,T,T,T,T,T,T,T,T,T,T,T,T,T,T,T,T,T,T,T,T,T,T] rfl rfl (any_of HT_.out (by kernel_rfl)) (fun _ _ _ h => h) (Or.inl ⟨by rfl, ?_⟩) ?_ ?_
               rotate_left; intro w'; go_simp; with_reducible rfl; rotate_left; simp only [Act.put, zA, zB, zC, i64_w, i32_w]; rfl
               refine done_ (done_of HT_.out (by kernel_rfl)) ?_
               try go_wp2
               go_ret
               exact ⟨by first | rfl | (simp [errW_none, errW_some] <;> rfl) | (simp [*, errW_none, errW_some] <;> rfl), by repeat (first | (with_reducible first | exact HB.out | apply b5 | apply b4 | apply b6 | refine b7 ?_ GE182.out | refine b7 ?_ GE192.out | refine b7 ?_ GE199.out) | exact HB.out)⟩
              ·rw [if_neg c46] at H
               have c46b0 : (t196 == t180) = false := beq_eq_false_iff_ne.mpr c46
               have c46b1 : (t196 != t180) = true := bne_iff_ne.mpr c46
               obtain rfl := Option.some.inj H
               have hnb62 := NB192_182.out
               have hnc62 := NB182_192.out
               have hcz63_0 : wc.cell? ⟨gb192, 0, none⟩ = some (.int .i64 t188) := (b8 BK192.out 0).trans rfl
               have hcz63_1 : wc.cell? ⟨gb192, 1, none⟩ = some (.int .i64 t189) := (b8 BK192.out 1).trans rfl
               have hcz63_2 : wc.cell? ⟨gb192, 2, none⟩ = some (.int .i64 t190) := (b8 BK192.out 2).trans rfl
               have hfz63_0 := blk_frozen BK192.out 0
               have hfz63_1 := blk_frozen BK192.out 1
               have hfz63_2 := blk_frozen BK192.out 2
               try go_wp2_with (first | ((with_reducible refine gate_callee (f := 21) rfl ?_); refine goesL_ (some 53) rfl rfl Try.func21 (by kernel_rfl) rfl #[.agg #[.int .i64 t188, .int .i64 t189, .int .i64 t190], .int .i64 (Int.tmod (rd t183 0) 60), .int .i64 (Int.tmod (rd t183 1) (wrap64 ((Int.tmod (rd t183 0) 60) + 1)))] rfl (by (try simp only [List.map_toArray, List.map_cons, List.map_nil]); first | done | rfl | (simp only [List.length_drop, List.length_take]; rfl)) ?_; (with_reducible refine (impl_Settle.calls t188 t189 t190 (Int.tmod (rd t183 0) 60) (Int.tmod (rd t183 1) (wrap64 ((Int.tmod (rd t183 0) 60) + 1))) t195 t196 t197 true _ A34.out).mono ?_); rintro e w64 ⟨rfl, hb⟩; refine ⟨_, rfl, ?_⟩; have n0_ := Am (blk_below (g := gb182) (o := .cells #[.int .i64 t179, .int .i64 t180, .int .i64 t181] 25 (0, 0)) (by (with_reducible repeat (first | refine b1 ?_ _ | refine b2 ?_ | refine b3 ?_ _)); exact BK182.out) hb); have n1_ := Am (blk_below (g := gb192) (o := .cells #[.int .i64 t188, .int .i64 t189, .int .i64 t190] 25 (0, 0)) (by (with_reducible repeat (first | refine b1 ?_ _ | refine b2 ?_ | refine b3 ?_ _)); exact BK192.out) hb); have n2_ := Am (below_step (by repeat (first | (with_reducible first | exact HB.out | apply b5 | apply b4 | apply b6 | refine b7 ?_ GE182.out | refine b7 ?_ GE192.out) | exact HB.out)) hb); clear BK182; clear BK192; clear HB; have BK182 := n0_; have BK192 := n1_; have HB := n2_; clear n0_ n1_ n2_; (try clear hb); (try clear hb2); (try clear hk); (try clear hi)) | ((with_reducible refine gate_dst (N := 9) rfl ?_); refine box_event ?hg (N := 9) ?hd (cs := #[.int .i64 0, .int .i64 0, .int .i64 0]) (t := 25) ?hr ?_; (case hd => rfl); (case hg => rfl); (case hr => first | (go_simp; done) | (go_simp; rfl)); intro gb199 hg w65 hbox hb; have n0_ := Am (blk_below (g := gb182) (o := .cells #[.int .i64 t179, .int .i64 t180, .int .i64 t181] 25 (0, 0)) (by (with_reducible repeat (first | refine b1 ?_ _ | refine b2 ?_ | refine b3 ?_ _)); exact BK182.out) hb); have n1_ := Am (blk_below (g := gb192) (o := .cells #[.int .i64 t188, .int .i64 t189, .int .i64 t190] 25 (0, 0)) (by (with_reducible repeat (first | refine b1 ?_ _ | refine b2 ?_ | refine b3 ?_ _)); exact BK192.out) hb); have n2_ := Am (below_step (by repeat (first | (with_reducible first | exact HB.out | apply b5 | apply b4 | apply b6 | refine b7 ?_ GE182.out | refine b7 ?_ GE192.out) | exact HB.out)) hb); have n3_ := Am (hbox); have n4_ := Am ((by rw [hg]; exact (below_size (by repeat (first | (with_reducible first | exact HB.out | apply b5 | apply b4 | apply b6 | refine b7 ?_ GE182.out | refine b7 ?_ GE192.out) | exact HB.out))) : w.heap.size ≤ gb199)); have n5_ := Am ((by rw [hg]; exact (below_size (by repeat (first | (with_reducible first | exact HB.out | apply b5 | apply b4 | apply b6 | refine b7 ?_ GE182.out | refine b7 ?_ GE192.out) | exact HB.out))) : w.heap.size ≤ gb199)); have n6_ := Am ((by rw [hg]; exact Nat.ne_of_lt (blk_lt (g := gb182) (o := .cells #[.int .i64 t179, .int .i64 t180, .int .i64 t181] 25 (0, 0)) (by (with_reducible repeat (first | refine b1 ?_ _ | refine b2 ?_ | refine b3 ?_ _)); exact BK182.out)) : gb182 ≠ gb199)); have n7_ := Am ((by rw [hg]; exact Nat.ne_of_gt (blk_lt (g := gb182) (o := .cells #[.int .i64 t179, .int .i64 t180, .int .i64 t181] 25 (0, 0)) (by (with_reducible repeat (first | refine b1 ?_ _ | refine b2 ?_ | refine b3 ?_ _)); exact BK182.out)) : gb199 ≠ gb182)); have n8_ := Am ((by rw [hg]; exact Nat.ne_of_lt (blk_lt (g := gb192) (o := .cells #[.int .i64 t188, .int .i64 t189, .int .i64 t190] 25 (0, 0)) (by (with_reducible repeat (first | refine b1 ?_ _ | refine b2 ?_ | refine b3 ?_ _)); exact BK192.out)) : gb192 ≠ gb199)); have n9_ := Am ((by rw [hg]; exact Nat.ne_of_gt (blk_lt (g := gb192) (o := .cells #[.int .i64 t188, .int .i64 t189, .int .i64 t190] 25 (0, 0)) (by (with_reducible repeat (first | refine b1 ?_ _ | refine b2 ?_ | refine b3 ?_ _)); exact BK192.out)) : gb199 ≠ gb192)); clear BK182; clear BK192; clear HB; have BK182 := n0_; have BK192 := n1_; have HB := n2_; have BK199 := n3_; have GW199 := n4_; have GE199 := n5_; have NB182_199 := n6_; have NB199_182 := n7_; have NB192_199 := n8_; have NB199_192 := n9_; clear n0_ n1_ n2_ n3_ n4_ n5_ n6_ n7_ n8_ n9_; clear hb hbox hg; have hnb66 := NB199_182.out; have hnc66 := NB182_199.out; have hnb67 := NB199_192.out; have hnc67 := NB192_199.out; have hcz68_0 : w65.cell? ⟨gb199, 0, none⟩ = some (.int .i64 0) := (b8 BK199.out 0).trans rfl; have hcz68_1 : w65.cell? ⟨gb199, 1, none⟩ = some (.int .i64 0) := (b8 BK199.out 1).trans rfl; have hcz68_2 : w65.cell? ⟨gb199, 2, none⟩ = some (.int .i64 0) := (b8 BK199.out 2).trans rfl; have hfz68_0 := blk_frozen BK199.out 0; have hfz68_1 := blk_frozen BK199.out 1; have hfz68_2 := blk_frozen BK199.out 2))
               have n0_ : Aside0 ((((w65.setCell ⟨gb199, 0, none⟩ (.int .i64 t195)).setCell ⟨gb199, 1, none⟩ (.int .i64 t196)).setCell ⟨gb199, 2, none⟩ (.int .i64 t197)).heap[gb182]? = some (.cells #[.int .i64 t179, .int .i64 t180, .int .i64 t181] 25 (0, 0))) := ⟨by (with_reducible repeat (first | refine b1 ?_ _ | refine b2 ?_ | refine b3 ?_ _)); refine blk_far ?_ NB182_199.out _; (with_reducible repeat (first | refine b1 ?_ _ | refine b2 ?_ | refine b3 ?_ _)); refine blk_far ?_ NB182_199.out _; (with_reducible repeat (first | refine b1 ?_ _ | refine b2 ?_ | refine b3 ?_ _)); refine blk_far ?_ NB182_199.out _; (with_reducible repeat (first | refine b1 ?_ _ | refine b2 ?_ | refine b3 ?_ _)); exact BK182.out⟩
               have n1_ : Aside0 ((((w65.setCell ⟨gb199, 0, none⟩ (.int .i64 t195)).setCell ⟨gb199, 1, none⟩ (.int .i64 t196)).setCell ⟨gb199, 2, none⟩ (.int .i64 t197)).heap[gb192]? = some (.cells #[.int .i64 t188, .int .i64 t189, .int .i64 t190] 25 (0, 0))) := ⟨by (with_reducible repeat (first | refine b1 ?_ _ | refine b2 ?_ | refine b3 ?_ _)); refine blk_far ?_ NB192_199.out _; (with_reducible repeat (first | refine b1 ?_ _ | refine b2 ?_ | refine b3 ?_ _)); refine blk_far ?_ NB192_199.out _; (with_reducible repeat (first | refine b1 ?_ _ | refine b2 ?_ | refine b3 ?_ _)); refine blk_far ?_ NB192_199.out _; (with_reducible repeat (first | refine b1 ?_ _ | refine b2 ?_ | refine b3 ?_ _)); exact BK192.out⟩
               have n2_ : Aside0 ((((w65.setCell ⟨gb199, 0, none⟩ (.int .i64 t195)).setCell ⟨gb199, 1, none⟩ (.int .i64 t196)).setCell ⟨gb199, 2, none⟩ (.int .i64 t197)).heap[gb199]? = some (.cells #[.int .i64 t195, .int .i64 t196, .int .i64 t197] 25 (0, 0))) := ⟨by (with_reducible repeat (first | refine b1 ?_ _ | refine b2 ?_ | refine b3 ?_ _)); refine blk_put (cs := #[.int .i64 t195, .int .i64 t196, .int .i64 0]) ?_ 2 _ rfl; (with_reducible repeat (first | refine b1 ?_ _ | refine b2 ?_ | refine b3 ?_ _)); refine blk_put (cs := #[.int .i64 t195, .int .i64 0, .int .i64 0]) ?_ 1 _ rfl; (with_reducible repeat (first | refine b1 ?_ _ | refine b2 ?_ | refine b3 ?_ _)); refine blk_put (cs := #[.int .i64 0, .int .i64 0, .int .i64 0]) ?_ 0 _ rfl; (with_reducible repeat (first | refine b1 ?_ _ | refine b2 ?_ | refine b3 ?_ _)); exact BK199.out⟩
               have n3_ : Aside0 (Below w.heap.size w (((w65.setCell ⟨gb199, 0, none⟩ (.int .i64 t195)).setCell ⟨gb199, 1, none⟩ (.int .i64 t196)).setCell ⟨gb199, 2, none⟩ (.int .i64 t197))) := ⟨by repeat (first | (with_reducible first | exact HB.out | apply b5 | apply b4 | apply b6 | refine b7 ?_ GE182.out | refine b7 ?_ GE192.out | refine b7 ?_ GE199.out) | exact HB.out)⟩
               (try clear BK182)
               (try clear BK192)
               (try clear BK199)
               (try clear HB)
               generalize (((w65.setCell ⟨gb199, 0, none⟩ (.int .i64 t195)).setCell ⟨gb199, 1, none⟩ (.int .i64 t196)).setCell ⟨gb199, 2, none⟩ (.int .i64 t197)) = w69 at n0_ n1_ n2_ n3_ ⊢
               have BK182 := n0_
               have BK192 := n1_
               have BK199 := n2_
               have HB := n3_
               clear n0_ n1_ n2_ n3_
               have n0_ := Am (b2 BK182.out)
               have n1_ := Am (b2 BK192.out)
               have n2_ := Am (b2 BK199.out)
               have n3_ := Am (b6 HB.out)
               clear BK182
               clear BK192
               clear BK199
               clear HB
               have BK182 := n0_
               have BK192 := n1_
               have BK199 := n2_
               have HB := n3_
               clear n0_ n1_ n2_ n3_
               refine start_ (n := 44) (S := fun w' => w'.cell? ⟨gb192, 0, none⟩ = some (.int .i64 t188) ∧ w'.cell? ⟨gb192, 1, none⟩ = some (.int .i64 t189) ∧ w'.cell? ⟨gb192, 2, none⟩ = some (.int .i64 t190) ∧ w'.cell? ⟨gb199, 0, none⟩ = some (.int .i64 t195) ∧ w'.cell? ⟨gb199, 1, none⟩ = some (.int .i64 t196) ∧ w'.cell? ⟨gb199, 2, none⟩ = some (.int .i64 t197) ∧ w'.cell? ⟨gb182, 0, none⟩ = some (.int .i64 t179) ∧ w'.cell? ⟨gb182, 1, none⟩ = some (.int .i64 t180) ∧ w'.cell? ⟨gb182, 2, none⟩ = some (.int .i64 t181)) (ds := []) #[F,F,F,F,F,F,F,F,F,F,F,F,F,F,F,F,F,F,F,F,F,F,F,F,F,F,F,F,F,F,F,F,F,F,F,F,F,F,F,F,F,F,F,F] (by kernel_rfl) rfl rfl ⟨(b8 BK192.out 0).trans rfl, (b8 BK192.out 1).trans rfl, (b8 BK192.out 2).trans rfl, (b8 BK199.out 0).trans rfl, (b8 BK199.out 1).trans rfl, (b8 BK199.out 2).trans rfl, (b8 BK182.out 0).trans rfl, (b8 BK182.out 1).trans rfl, (b8 BK182.out 2).trans rfl⟩ (fun hHeld => ?_); refine with_tabW laws_FnAccounts.tab13 laws_FnAccounts.bits13 (fun HT_ HW_ => ?_)
               generalize w69.drew = w70 at BK182 BK192 BK199 HB hHeld ⊢
               refine pure_ (i := 0) (N := some 56) (v := ?_) (a' := ?_) #[T,F,F,F,F,F,F,F,F,F,F,F,F,F,F,F,F,F,F,F,F,F,F,F,F,F,F,F,F,F,F,F,F,F,F,F,F,F,F,F,F,F,F,F] rfl rfl (any_of HT_.out (by kernel_rfl)) (fun _ _ _ h => h) (Or.inl ⟨by rfl, ?_⟩) ?_ ?_
               rotate_left; intro w'; go_simp; with_reducible rfl; rotate_left; simp only [Act.put, zA, zB, zC, i64_w, i32_w]; rfl
               refine pure_ (i := 1) (N := some 57) (v := ?_) (a' := ?_) #[T,T,F,F,F,F,F,F,F,F,F,F,F,F,F,F,F,F,F,F,F,F,F,F,F,F,F,F,F,F,F,F,F,F,F,F,F,F,F,F,F,F,F,F] rfl rfl (any_of HT_.out (by kernel_rfl)) (fun _ _ _ h => h) (Or.inl ⟨by rfl, ?_⟩) ?_ ?_
               rotate_left; intro w'; go_simp; with_reducible rfl; rotate_left; simp only [Act.put, zA, zB, zC, i64_w, i32_w]; rfl
               refine take_ (i := 2) (N := some 58) (v := ?_) (a' := ?_) #[T,T,T,F,F,F,F,F,F,F,F,F,F,F,F,F,F,F,F,F,F,F,F,F,F,F,F,F,F,F,F,F,F,F,F,F,F,F,F,F,F,F,F,F] rfl rfl (take_ofW HT_.out HW_.out (by kernel_rfl)) (fun _ _ _ h => h) (Or.inl ⟨by rfl, ?_⟩) hHeld ?_ ?_
               rotate_left; rintro w' ⟨s0, s1, s2, s3, s4, s5, s6, s7, s8⟩; go_simp; with_reducible rfl; rotate_left; simp only [Act.put, zA, zB, zC, i64_w, i32_w]; rfl
               refine one_ (i := 3) (N := some 59) #[T,T,T,T,F,F,F,F,F,F,F,F,F,F,F,F,F,F,F,F,F,F,F,F,F,F,F,F,F,F,F,F,F,F,F,F,F,F,F,F,F,F,F,F] rfl rfl (one_of HT_.out (by kernel_rfl)) (by decide) (fun K hK => ?_)
               refine goes_ Try.func19 (by kernel_rfl) rfl #[.agg #[.int .i64 t188, .int .i64 t189, .int .i64 t190]] (by rfl) rfl rfl (by (try simp only [List.map_toArray, List.map_cons, List.map_nil]); first | done | rfl | (simp only [List.length_drop, List.length_take]; rfl)) ?_
               with_reducible refine (impl_AccountOk.calls t188 t189 t190 true _ A36.out).mono ?_
               rintro e w71 ⟨rfl, hb⟩
               refine ⟨_, rfl, ?_⟩
               have n0_ := Am (blk_below (g := gb182) (o := .cells #[.int .i64 t179, .int .i64 t180, .int .i64 t181] 25 (0, 0)) (by (with_reducible repeat (first | refine b1 ?_ _ | refine b2 ?_ | refine b3 ?_ _)); exact BK182.out) hb)
               have n1_ := Am (blk_below (g := gb192) (o := .cells #[.int .i64 t188, .int .i64 t189, .int .i64 t190] 25 (0, 0)) (by (with_reducible repeat (first | refine b1 ?_ _ | refine b2 ?_ | refine b3 ?_ _)); exact BK192.out) hb)
               have n2_ := Am (blk_below (g := gb199) (o := .cells #[.int .i64 t195, .int .i64 t196, .int .i64 t197] 25 (0, 0)) (by (with_reducible repeat (first | refine b1 ?_ _ | refine b2 ?_ | refine b3 ?_ _)); exact BK199.out) hb)
               have n3_ := Am (below_step (by repeat (first | (with_reducible first | exact HB.out | apply b5 | apply b4 | apply b6 | refine b7 ?_ GE182.out | refine b7 ?_ GE192.out | refine b7 ?_ GE199.out) | exact HB.out)) hb)
               clear BK182
               clear BK192
               clear BK199
               clear HB
               have BK182 := n0_
               have BK192 := n1_
               have BK199 := n2_
               have HB := n3_
               clear n0_ n1_ n2_ n3_
               (try clear hb)
               (try clear hb2)
               (try clear hk)
               (try clear hi)
               refine hK.out _ _ ⟨(b8 BK192.out 0).trans rfl, (b8 BK192.out 1).trans rfl, (b8 BK192.out 2).trans rfl, (b8 BK199.out 0).trans rfl, (b8 BK199.out 1).trans rfl, (b8 BK199.out 2).trans rfl, (b8 BK182.out 0).trans rfl, (b8 BK182.out 1).trans rfl, (b8 BK182.out 2).trans rfl⟩ (fun hHeld => ?_)
               clear hK K
               refine norm_ (a' := ?_) ?_ ?_
               rotate_left
               ·show Act.put _ (some 59) _ = _
                simp only [Act.put, zA, zB, zC, i64_w, i32_w]
                rfl
               refine pure_ (i := 4) (N := some 60) (v := ?_) (a' := ?_) #[T,T,T,T,T,F,F,F,F,F,F,F,F,F,F,F,F,F,F,F,F,F,F,F,F,F,F,F,F,F,F,F,F,F,F,F,F,F,F,F,F,F,F,F] rfl rfl (any_of HT_.out (by kernel_rfl)) (fun _ _ _ h => h) (Or.inl ⟨by rfl, ?_⟩) ?_ ?_
               rotate_left; intro w'; go_simp; with_reducible rfl; rotate_left; simp only [Act.put, zA, zB, zC, i64_w, i32_w]; rfl
               refine pure_ (i := 5) (N := some 61) (v := ?_) (a' := ?_) #[T,T,T,T,T,T,F,F,F,F,F,F,F,F,F,F,F,F,F,F,F,F,F,F,F,F,F,F,F,F,F,F,F,F,F,F,F,F,F,F,F,F,F,F] rfl rfl (any_of HT_.out (by kernel_rfl)) (fun _ _ _ h => h) (Or.inl ⟨by rfl, ?_⟩) ?_ ?_
               rotate_left; intro w'; go_simp; with_reducible rfl; rotate_left; simp only [Act.put, zA, zB, zC, i64_w, i32_w]; rfl
               refine take_ (i := 6) (N := some 62) (v := ?_) (a' := ?_) #[T,T,T,T,T,T,T,F,F,F,F,F,F,F,F,F,F,F,F,F,F,F,F,F,F,F,F,F,F,F,F,F,F,F,F,F,F,F,F,F,F,F,F,F] rfl rfl (take_ofW HT_.out HW_.out (by kernel_rfl)) (fun _ _ _ h => h) (Or.inl ⟨by rfl, ?_⟩) hHeld ?_ ?_
               rotate_left; rintro w' ⟨s0, s1, s2, s3, s4, s5, s6, s7, s8⟩; go_simp; with_reducible rfl; rotate_left; simp only [Act.put, zA, zB, zC, i64_w, i32_w]; rfl
               refine one_ (i := 7) (N := some 63) #[T,T,T,T,T,T,T,T,F,F,F,F,F,F,F,F,F,F,F,F,F,F,F,F,F,F,F,F,F,F,F,F,F,F,F,F,F,F,F,F,F,F,F,F] rfl rfl (one_of HT_.out (by kernel_rfl)) (by decide) (fun K hK => ?_)
               refine goes_ Try.func19 (by kernel_rfl) rfl #[.agg #[.int .i64 t195, .int .i64 t196, .int .i64 t197]] (by rfl) rfl rfl (by (try simp only [List.map_toArray, List.map_cons, List.map_nil]); first | done | rfl | (simp only [List.length_drop, List.length_take]; rfl)) ?_
               with_reducible refine (impl_AccountOk.calls t195 t196 t197 true _ A38.out).mono ?_
               rintro e w72 ⟨rfl, hb⟩
               refine ⟨_, rfl, ?_⟩
               have n0_ := Am (blk_below (g := gb182) (o := .cells #[.int .i64 t179, .int .i64 t180, .int .i64 t181] 25 (0, 0)) (by (with_reducible repeat (first | refine b1 ?_ _ | refine b2 ?_ | refine b3 ?_ _)); exact BK182.out) hb)
               have n1_ := Am (blk_below (g := gb192) (o := .cells #[.int .i64 t188, .int .i64 t189, .int .i64 t190] 25 (0, 0)) (by (with_reducible repeat (first | refine b1 ?_ _ | refine b2 ?_ | refine b3 ?_ _)); exact BK192.out) hb)
               have n2_ := Am (blk_below (g := gb199) (o := .cells #[.int .i64 t195, .int .i64 t196, .int .i64 t197] 25 (0, 0)) (by (with_reducible repeat (first | refine b1 ?_ _ | refine b2 ?_ | refine b3 ?_ _)); exact BK199.out) hb)
               have n3_ := Am (below_step (by repeat (first | (with_reducible first | exact HB.out | apply b5 | apply b4 | apply b6 | refine b7 ?_ GE182.out | refine b7 ?_ GE192.out | refine b7 ?_ GE199.out) | exact HB.out)) hb)
               clear BK182
               clear BK192
               clear BK199
               clear HB
               have BK182 := n0_
               have BK192 := n1_
               have BK199 := n2_
               have HB := n3_
               clear n0_ n1_ n2_ n3_
               (try clear hb)
               (try clear hb2)
               (try clear hk)
               (try clear hi)
               refine hK.out _ _ ⟨(b8 BK192.out 0).trans rfl, (b8 BK192.out 1).trans rfl, (b8 BK192.out 2).trans rfl, (b8 BK199.out 0).trans rfl, (b8 BK199.out 1).trans rfl, (b8 BK199.out 2).trans rfl, (b8 BK182.out 0).trans rfl, (b8 BK182.out 1).trans rfl, (b8 BK182.out 2).trans rfl⟩ (fun hHeld => ?_)
               clear hK K
               refine norm_ (a' := ?_) ?_ ?_
               rotate_left
               ·show Act.put _ (some 63) _ = _
                simp only [Act.put, zA, zB, zC, i64_w, i32_w]
                rfl
               refine pure_ (i := 8) (N := some 64) (v := ?_) (a' := ?_) #[T,T,T,T,T,T,T,T,T,F,F,F,F,F,F,F,F,F,F,F,F,F,F,F,F,F,F,F,F,F,F,F,F,F,F,F,F,F,F,F,F,F,F,F] rfl rfl (any_of HT_.out (by kernel_rfl)) (fun _ _ _ h => h) (Or.inl ⟨by rfl, ?_⟩) ?_ ?_
               rotate_left; intro w'; go_simp; with_reducible rfl; rotate_left; simp only [Act.put, zA, zB, zC, i64_w, i32_w]; rfl
               refine pure_ (i := 9) (N := some 65) (v := ?_) (a' := ?_) #[T,T,T,T,T,T,T,T,T,T,F,F,F,F,F,F,F,F,F,F,F,F,F,F,F,F,F,F,F,F,F,F,F,F,F,F,F,F,F,F,F,F,F,F] rfl rfl (any_of HT_.out (by kernel_rfl)) (fun _ _ _ h => h) (Or.inl ⟨by rfl, ?_⟩) ?_ ?_
               rotate_left; intro w'; go_simp; with_reducible rfl; rotate_left; simp only [Act.put, zA, zB, zC, i64_w, i32_w]; rfl
               refine pure_ (i := 14) (N := some 70) (v := ?_) (a' := ?_) #[T,T,T,T,T,T,T,T,T,T,F,F,F,F,T,F,F,F,F,F,F,F,F,F,F,F,F,F,F,F,F,F,F,F,F,F,F,F,F,F,F,F,F,F] rfl rfl (any_of HT_.out (by kernel_rfl)) (fun _ _ _ h => h) (Or.inl ⟨by rfl, ?_⟩) ?_ ?_
               rotate_left; intro w'; go_simp; with_reducible rfl; rotate_left; simp only [Act.put, zA, zB, zC, i64_w, i32_w]; rfl
               refine take_ (i := 10) (N := some 66) (v := ?_) (a' := ?_) #[T,T,T,T,T,T,T,T,T,T,T,F,F,F,T,F,F,F,F,F,F,F,F,F,F,F,F,F,F,F,F,F,F,F,F,F,F,F,F,F,F,F,F,F] rfl rfl (take_ofW HT_.out HW_.out (by kernel_rfl)) (fun _ _ _ h => h) (Or.inl ⟨by rfl, ?_⟩) hHeld ?_ ?_
               rotate_left; rintro w' ⟨s0, s1, s2, s3, s4, s5, s6, s7, s8⟩; go_simp; with_reducible rfl; rotate_left; simp only [Act.put, zA, zB, zC, i64_w, i32_w]; rfl
               refine take_ (i := 12) (N := some 68) (v := ?_) (a' := ?_) #[T,T,T,T,T,T,T,T,T,T,T,F,T,F,T,F,F,F,F,F,F,F,F,F,F,F,F,F,F,F,F,F,F,F,F,F,F,F,F,F,F,F,F,F] rfl rfl (take_ofW HT_.out HW_.out (by kernel_rfl)) (fun _ _ _ h => h) (Or.inl ⟨by rfl, ?_⟩) hHeld ?_ ?_
               rotate_left; rintro w' ⟨s0, s1, s2, s3, s4, s5, s6, s7, s8⟩; go_simp; with_reducible rfl; rotate_left; simp only [Act.put, zA, zB, zC, i64_w, i32_w]; rfl
               refine one_ (i := 11) (N := some 67) #[T,T,T,T,T,T,T,T,T,T,T,T,T,F,T,F,F,F,F,F,F,F,F,F,F,F,F,F,F,F,F,F,F,F,F,F,F,F,F,F,F,F,F,F] rfl rfl (one_of HT_.out (by kernel_rfl)) (by decide) (fun K hK => ?_)
               refine goes_ Try.func20 (by kernel_rfl) rfl #[.agg #[.int .i64 t188, .int .i64 t189, .int .i64 t190]] (by rfl) rfl rfl (by (try simp only [List.map_toArray, List.map_cons, List.map_nil]); first | done | rfl | (simp only [List.length_drop, List.length_take]; rfl)) ?_
               with_reducible refine (impl_FreeSheets.calls t188 t189 t190 t202 _ A40.out).mono ?_
               rintro e w73 ⟨rfl, hb⟩
               refine ⟨_, rfl, ?_⟩
               have n0_ := Am (blk_below (g := gb182) (o := .cells #[.int .i64 t179, .int .i64 t180, .int .i64 t181] 25 (0, 0)) (by (with_reducible repeat (first | refine b1 ?_ _ | refine b2 ?_ | refine b3 ?_ _)); exact BK182.out) hb)
               have n1_ := Am (blk_below (g := gb192) (o := .cells #[.int .i64 t188, .int .i64 t189, .int .i64 t190] 25 (0, 0)) (by (with_reducible repeat (first | refine b1 ?_ _ | refine b2 ?_ | refine b3 ?_ _)); exact BK192.out) hb)
               have n2_ := Am (blk_below (g := gb199) (o := .cells #[.int .i64 t195, .int .i64 t196, .int .i64 t197] 25 (0, 0)) (by (with_reducible repeat (first | refine b1 ?_ _ | refine b2 ?_ | refine b3 ?_ _)); exact BK199.out) hb)
               have n3_ := Am (below_step (by repeat (first | (with_reducible first | exact HB.out | apply b5 | apply b4 | apply b6 | refine b7 ?_ GE182.out | refine b7 ?_ GE192.out | refine b7 ?_ GE199.out) | exact HB.out)) hb)
               clear BK182
               clear BK192
               clear BK199
               clear HB
               have BK182 := n0_
               have BK192 := n1_
               have BK199 := n2_
               have HB := n3_
               clear n0_ n1_ n2_ n3_
               (try clear hb)
               (try clear hb2)
               (try clear hk)
               (try clear hi)
               refine hK.out _ _ ⟨(b8 BK192.out 0).trans rfl, (b8 BK192.out 1).trans rfl, (b8 BK192.out 2).trans rfl, (b8 BK199.out 0).trans rfl, (b8 BK199.out 1).trans rfl, (b8 BK199.out 2).trans rfl, (b8 BK182.out 0).trans rfl, (b8 BK182.out 1).trans rfl, (b8 BK182.out 2).trans rfl⟩ (fun hHeld => ?_)
               clear hK K
               refine norm_ (a' := ?_) ?_ ?_
               rotate_left
               ·show Act.put _ (some 67) _ = _
                simp only [Act.put, zA, zB, zC, i64_w, i32_w]
                rfl
               refine one_ (i := 13) (N := some 69) #[T,T,T,T,T,T,T,T,T,T,T,T,T,T,T,F,F,F,F,F,F,F,F,F,F,F,F,F,F,F,F,F,F,F,F,F,F,F,F,F,F,F,F,F] rfl rfl (one_of HT_.out (by kernel_rfl)) (by decide) (fun K hK => ?_)
               refine goes_ Try.func20 (by kernel_rfl) rfl #[.agg #[.int .i64 t179, .int .i64 t180, .int .i64 t181]] (by rfl) rfl rfl (by (try simp only [List.map_toArray, List.map_cons, List.map_nil]); first | done | rfl | (simp only [List.length_drop, List.length_take]; rfl)) ?_
               with_reducible refine (impl_FreeSheets.calls t179 t180 t181 t203 _ A41.out).mono ?_
               rintro e w74 ⟨rfl, hb⟩
               refine ⟨_, rfl, ?_⟩
               have n0_ := Am (blk_below (g := gb182) (o := .cells #[.int .i64 t179, .int .i64 t180, .int .i64 t181] 25 (0, 0)) (by (with_reducible repeat (first | refine b1 ?_ _ | refine b2 ?_ | refine b3 ?_ _)); exact BK182.out) hb)
               have n1_ := Am (blk_below (g := gb192) (o := .cells #[.int .i64 t188, .int .i64 t189, .int .i64 t190] 25 (0, 0)) (by (with_reducible repeat (first | refine b1 ?_ _ | refine b2 ?_ | refine b3 ?_ _)); exact BK192.out) hb)
               have n2_ := Am (blk_below (g := gb199) (o := .cells #[.int .i64 t195, .int .i64 t196, .int .i64 t197] 25 (0, 0)) (by (with_reducible repeat (first | refine b1 ?_ _ | refine b2 ?_ | refine b3 ?_ _)); exact BK199.out) hb)
               have n3_ := Am (below_step (by repeat (first | (with_reducible first | exact HB.out | apply b5 | apply b4 | apply b6 | refine b7 ?_ GE182.out | refine b7 ?_ GE192.out | refine b7 ?_ GE199.out) | exact HB.out)) hb)
               clear BK182
               clear BK192
               clear BK199
               clear HB
               have BK182 := n0_
               have BK192 := n1_
               have BK199 := n2_
               have HB := n3_
               clear n0_ n1_ n2_ n3_
               (try clear hb)
               (try clear hb2)
               (try clear hk)
               (try clear hi)
               refine hK.out _ _ ⟨(b8 BK192.out 0).trans rfl, (b8 BK192.out 1).trans rfl, (b8 BK192.out 2).trans rfl, (b8 BK199.out 0).trans rfl, (b8 BK199.out 1).trans rfl, (b8 BK199.out 2).trans rfl, (b8 BK182.out 0).trans rfl, (b8 BK182.out 1).trans rfl, (b8 BK182.out 2).trans rfl⟩ (fun hHeld => ?_)
               clear hK K
               refine norm_ (a' := ?_) ?_ ?_
               rotate_left
               ·show Act.put _ (some 69) _ = _
                simp only [Act.put, zA, zB, zC, i64_w, i32_w]
                rfl
               refine pure_ (i := 15) (N := some 71) (v := ?_) (a' := ?_) #[T,T,T,T,T,T,T,T,T,T,T,T,T,T,T,T,F,F,F,F,F,F,F,F,F,F,F,F,F,F,F,F,F,F,F,F,F,F,F,F,F,F,F,F] rfl rfl (any_of HT_.out (by kernel_rfl)) (fun _ _ _ h => h) (Or.inl ⟨by rfl, ?_⟩) ?_ ?_
               rotate_left; intro w'; go_simp; with_reducible rfl; rotate_left; simp only [Act.put, zA, zB, zC, i64_w, i32_w]; rfl
               refine pure_ (i := 16) (N := some 72) (v := ?_) (a' := ?_) #[T,T,T,T,T,T,T,T,T,T,T,T,T,T,T,T,T,F,F,F,F,F,F,F,F,F,F,F,F,F,F,F,F,F,F,F,F,F,F,F,F,F,F,F] rfl rfl (any_of HT_.out (by kernel_rfl)) (fun _ _ _ h => h) (Or.inl ⟨by rfl, ?_⟩) ?_ ?_
               rotate_left; intro w'; go_simp; with_reducible rfl; rotate_left; simp only [Act.put, zA, zB, zC, i64_w, i32_w]; rfl
               refine pure_ (i := 17) (N := some 73) (v := ?_) (a' := ?_) #[T,T,T,T,T,T,T,T,T,T,T,T,T,T,T,T,T,T,F,F,F,F,F,F,F,F,F,F,F,F,F,F,F,F,F,F,F,F,F,F,F,F,F,F] rfl rfl (any_of HT_.out (by kernel_rfl)) (fun _ _ _ h => h) (Or.inl ⟨by rfl, ?_⟩) ?_ ?_
               rotate_left; intro w'; go_simp; with_reducible rfl; rotate_left; simp only [Act.put, zA, zB, zC, i64_w, i32_w]; rfl
               refine pure_ (i := 18) (N := some 74) (v := ?_) (a' := ?_) #[T,T,T,T,T,T,T,T,T,T,T,T,T,T,T,T,T,T,T,F,F,F,F,F,F,F,F,F,F,F,F,F,F,F,F,F,F,F,F,F,F,F,F,F] rfl rfl (any_of HT_.out (by kernel_rfl)) (fun _ _ _ h => h) (Or.inl ⟨by rfl, ?_⟩) ?_ ?_
               rotate_left; intro w'; go_simp; with_reducible rfl; rotate_left; simp only [Act.put, zA, zB, zC, i64_w, i32_w]; rfl
               refine pure_ (i := 23) (N := some 79) (v := ?_) (a' := ?_) #[T,T,T,T,T,T,T,T,T,T,T,T,T,T,T,T,T,T,T,F,F,F,F,T,F,F,F,F,F,F,F,F,F,F,F,F,F,F,F,F,F,F,F,F] rfl rfl (any_of HT_.out (by kernel_rfl)) (fun _ _ _ h => h) (Or.inl ⟨by rfl, ?_⟩) ?_ ?_
               rotate_left; intro w'; go_simp; with_reducible rfl; rotate_left; simp only [Act.put, zA, zB, zC, i64_w, i32_w]; rfl
               refine take_ (i := 19) (N := some 75) (v := ?_) (a' := ?_) #[T,T,T,T,T,T,T,T,T,T,T,T,T,T,T,T,T,T,T,T,F,F,F,T,F,F,F,F,F,F,F,F,F,F,F,F,F,F,F,F,F,F,F,F] rfl rfl (take_ofW HT_.out HW_.out (by kernel_rfl)) (fun _ _ _ h => h) (Or.inl ⟨by rfl, ?_⟩) hHeld ?_ ?_
               rotate_left; rintro w' ⟨s0, s1, s2, s3, s4, s5, s6, s7, s8⟩; go_simp; with_reducible rfl; rotate_left; simp only [Act.put, zA, zB, zC, i64_w, i32_w]; rfl
               refine take_ (i := 21) (N := some 77) (v := ?_) (a' := ?_) #[T,T,T,T,T,T,T,T,T,T,T,T,T,T,T,T,T,T,T,T,F,T,F,T,F,F,F,F,F,F,F,F,F,F,F,F,F,F,F,F,F,F,F,F] rfl rfl (take_ofW HT_.out HW_.out (by kernel_rfl)) (fun _ _ _ h => h) (Or.inl ⟨by rfl, ?_⟩) hHeld ?_ ?_
               rotate_left; rintro w' ⟨s0, s1, s2, s3, s4, s5, s6, s7, s8⟩; go_simp; with_reducible rfl; rotate_left; simp only [Act.put, zA, zB, zC, i64_w, i32_w]; rfl
               refine one_ (i := 20) (N := some 76) #[T,T,T,T,T,T,T,T,T,T,T,T,T,T,T,T,T,T,T,T,T,T,F,T,F,F,F,F,F,F,F,F,F,F,F,F,F,F,F,F,F,F,F,F] rfl rfl (one_of HT_.out (by kernel_rfl)) (by decide) (fun K hK => ?_)
               refine goes_ Try.func20 (by kernel_rfl) rfl #[.agg #[.int .i64 t195, .int .i64 t196, .int .i64 t197]] (by rfl) rfl rfl (by (try simp only [List.map_toArray, List.map_cons, List.map_nil]); first | done | rfl | (simp only [List.length_drop, List.length_take]; rfl)) ?_
               with_reducible refine (impl_FreeSheets.calls t195 t196 t197 t204 _ A43.out).mono ?_
               rintro e w75 ⟨rfl, hb⟩
               refine ⟨_, rfl, ?_⟩
               have n0_ := Am (blk_below (g := gb182) (o := .cells #[.int .i64 t179, .int .i64 t180, .int .i64 t181] 25 (0, 0)) (by (with_reducible repeat (first | refine b1 ?_ _ | refine b2 ?_ | refine b3 ?_ _)); exact BK182.out) hb)
               have n1_ := Am (blk_below (g := gb192) (o := .cells #[.int .i64 t188, .int .i64 t189, .int .i64 t190] 25 (0, 0)) (by (with_reducible repeat (first | refine b1 ?_ _ | refine b2 ?_ | refine b3 ?_ _)); exact BK192.out) hb)
               have n2_ := Am (blk_below (g := gb199) (o := .cells #[.int .i64 t195, .int .i64 t196, .int .i64 t197] 25 (0, 0)) (by (with_reducible repeat (first | refine b1 ?_ _ | refine b2 ?_ | refine b3 ?_ _)); exact BK199.out) hb)
               have n3_ := Am (below_step (by repeat (first | (with_reducible first | exact HB.out | apply b5 | apply b4 | apply b6 | refine b7 ?_ GE182.out | refine b7 ?_ GE192.out | refine b7 ?_ GE199.out) | exact HB.out)) hb)
               clear BK182
               clear BK192
               clear BK199
               clear HB
               have BK182 := n0_
               have BK192 := n1_
               have BK199 := n2_
               have HB := n3_
               clear n0_ n1_ n2_ n3_
               (try clear hb)
               (try clear hb2)
               (try clear hk)
               (try clear hi)
               refine hK.out _ _ ⟨(b8 BK192.out 0).trans rfl, (b8 BK192.out 1).trans rfl, (b8 BK192.out 2).trans rfl, (b8 BK199.out 0).trans rfl, (b8 BK199.out 1).trans rfl, (b8 BK199.out 2).trans rfl, (b8 BK182.out 0).trans rfl, (b8 BK182.out 1).trans rfl, (b8 BK182.out 2).trans rfl⟩ (fun hHeld => ?_)
               clear hK K
               refine norm_ (a' := ?_) ?_ ?_
               rotate_left
               ·show Act.put _ (some 76) _ = _
                simp only [Act.put, zA, zB, zC, i64_w, i32_w]
                rfl
               refine one_ (i := 22) (N := some 78) #[T,T,T,T,T,T,T,T,T,T,T,T,T,T,T,T,T,T,T,T,T,T,T,T,F,F,F,F,F,F,F,F,F,F,F,F,F,F,F,F,F,F,F,F] rfl rfl (one_of HT_.out (by kernel_rfl)) (by decide) (fun K hK => ?_)
               refine goes_ Try.func20 (by kernel_rfl) rfl #[.agg #[.int .i64 t179, .int .i64 t180, .int .i64 t181]] (by rfl) rfl rfl (by (try simp only [List.map_toArray, List.map_cons, List.map_nil]); first | done | rfl | (simp only [List.length_drop, List.length_take]; rfl)) ?_
               with_reducible refine (impl_FreeSheets.calls t179 t180 t181 t205 _ A44.out).mono ?_
               rintro e w76 ⟨rfl, hb⟩
               refine ⟨_, rfl, ?_⟩
               have n0_ := Am (blk_below (g := gb182) (o := .cells #[.int .i64 t179, .int .i64 t180, .int .i64 t181] 25 (0, 0)) (by (with_reducible repeat (first | refine b1 ?_ _ | refine b2 ?_ | refine b3 ?_ _)); exact BK182.out) hb)
               have n1_ := Am (blk_below (g := gb192) (o := .cells #[.int .i64 t188, .int .i64 t189, .int .i64 t190] 25 (0, 0)) (by (with_reducible repeat (first | refine b1 ?_ _ | refine b2 ?_ | refine b3 ?_ _)); exact BK192.out) hb)
               have n2_ := Am (blk_below (g := gb199) (o := .cells #[.int .i64 t195, .int .i64 t196, .int .i64 t197] 25 (0, 0)) (by (with_reducible repeat (first | refine b1 ?_ _ | refine b2 ?_ | refine b3 ?_ _)); exact BK199.out) hb)
               have n3_ := Am (below_step (by repeat (first | (with_reducible first | exact HB.out | apply b5 | apply b4 | apply b6 | refine b7 ?_ GE182.out | refine b7 ?_ GE192.out | refine b7 ?_ GE199.out) | exact HB.out)) hb)
               clear BK182
               clear BK192
               clear BK199
               clear HB
               have BK182 := n0_
               have BK192 := n1_
               have BK199 := n2_
               have HB := n3_
               clear n0_ n1_ n2_ n3_
               (try clear hb)
               (try clear hb2)
               (try clear hk)
               (try clear hi)
               refine hK.out _ _ ⟨(b8 BK192.out 0).trans rfl, (b8 BK192.out 1).trans rfl, (b8 BK192.out 2).trans rfl, (b8 BK199.out 0).trans rfl, (b8 BK199.out 1).trans rfl, (b8 BK199.out 2).trans rfl, (b8 BK182.out 0).trans rfl, (b8 BK182.out 1).trans rfl, (b8 BK182.out 2).trans rfl⟩ (fun hHeld => ?_)
               clear hK K
               refine norm_ (a' := ?_) ?_ ?_
               rotate_left
               ·show Act.put _ (some 78) _ = _
                simp only [Act.put, zA, zB, zC, i64_w, i32_w]
                rfl
               refine pure_ (i := 24) (N := some 80) (v := ?_) (a' := ?_) #[T,T,T,T,T,T,T,T,T,T,T,T,T,T,T,T,T,T,T,T,T,T,T,T,T,F,F,F,F,F,F,F,F,F,F,F,F,F,F,F,F,F,F,F] rfl rfl (any_of HT_.out (by kernel_rfl)) (fun _ _ _ h => h) (Or.inl ⟨by rfl, ?_⟩) ?_ ?_
               rotate_left; intro w'; go_simp; with_reducible rfl; rotate_left; simp only [Act.put, zA, zB, zC, i64_w, i32_w]; rfl
               refine pure_ (i := 25) (N := some 81) (v := ?_) (a' := ?_) #[T,T,T,T,T,T,T,T,T,T,T,T,T,T,T,T,T,T,T,T,T,T,T,T,T,T,F,F,F,F,F,F,F,F,F,F,F,F,F,F,F,F,F,F] rfl rfl (any_of HT_.out (by kernel_rfl)) (fun _ _ _ h => h) (Or.inl ⟨by rfl, ?_⟩) ?_ ?_
               rotate_left; intro w'; go_simp; with_reducible rfl; rotate_left; simp only [Act.put, zA, zB, zC, i64_w, i32_w]; rfl
               refine pure_ (i := 26) (N := some 82) (v := ?_) (a' := ?_) #[T,T,T,T,T,T,T,T,T,T,T,T,T,T,T,T,T,T,T,T,T,T,T,T,T,T,T,F,F,F,F,F,F,F,F,F,F,F,F,F,F,F,F,F] rfl rfl (any_of HT_.out (by kernel_rfl)) (fun _ _ _ h => h) (Or.inl ⟨by rfl, ?_⟩) ?_ ?_
               rotate_left; intro w'; go_simp; with_reducible rfl; rotate_left; simp only [Act.put, zA, zB, zC, i64_w, i32_w]; rfl
               refine pure_ (i := 27) (N := some 83) (v := ?_) (a' := ?_) #[T,T,T,T,T,T,T,T,T,T,T,T,T,T,T,T,T,T,T,T,T,T,T,T,T,T,T,T,F,F,F,F,F,F,F,F,F,F,F,F,F,F,F,F] rfl rfl (any_of HT_.out (by kernel_rfl)) (fun _ _ _ h => h) (Or.inl ⟨by rfl, ?_⟩) ?_ ?_
               rotate_left; intro w'; go_simp; with_reducible rfl; rotate_left; simp only [Act.put, zA, zB, zC, i64_w, i32_w]; rfl
               refine pure_ (i := 28) (N := some 84) (v := ?_) (a' := ?_) #[T,T,T,T,T,T,T,T,T,T,T,T,T,T,T,T,T,T,T,T,T,T,T,T,T,T,T,T,T,F,F,F,F,F,F,F,F,F,F,F,F,F,F,F] rfl rfl (any_of HT_.out (by kernel_rfl)) (fun _ _ _ h => h) (Or.inl ⟨by rfl, ?_⟩) ?_ ?_
               rotate_left; intro w'; go_simp; with_reducible rfl; rotate_left; simp only [Act.put, zA, zB, zC, i64_w, i32_w]; rfl
               refine pure_ (i := 30) (N := some 86) (v := ?_) (a' := ?_) #[T,T,T,T,T,T,T,T,T,T,T,T,T,T,T,T,T,T,T,T,T,T,T,T,T,T,T,T,T,F,T,F,F,F,F,F,F,F,F,F,F,F,F,F] rfl rfl (any_of HT_.out (by kernel_rfl)) (fun _ _ _ h => h) (Or.inl ⟨by rfl, ?_⟩) ?_ ?_
               rotate_left; intro w'; go_simp; with_reducible rfl; rotate_left; simp only [Act.put, zA, zB, zC, i64_w, i32_w]; rfl
               refine take_ (i := 29) (N := some 85) (v := ?_) (a' := ?_) #[T,T,T,T,T,T,T,T,T,T,T,T,T,T,T,T,T,T,T,T,T,T,T,T,T,T,T,T,T,T,T,F,F,F,F,F,F,F,F,F,F,F,F,F] rfl rfl (take_ofW HT_.out HW_.out (by kernel_rfl)) (fun _ _ _ h => h) (Or.inl ⟨by rfl, ?_⟩) hHeld ?_ ?_
               rotate_left; rintro w' ⟨s0, s1, s2, s3, s4, s5, s6, s7, s8⟩; go_simp; with_reducible rfl; rotate_left; simp only [Act.put, zA, zB, zC, i64_w, i32_w]; rfl
               refine take_ (i := 31) (N := some 87) (v := ?_) (a' := ?_) #[T,T,T,T,T,T,T,T,T,T,T,T,T,T,T,T,T,T,T,T,T,T,T,T,T,T,T,T,T,T,T,T,F,F,F,F,F,F,F,F,F,F,F,F] rfl rfl (take_ofW HT_.out HW_.out (by kernel_rfl)) (fun _ _ _ h => h) (Or.inl ⟨by rfl, ?_⟩) hHeld ?_ ?_
               rotate_left; rintro w' ⟨s0, s1, s2, s3, s4, s5, s6, s7, s8⟩; go_simp; with_reducible rfl; rotate_left; simp only [Act.put, zA, zB, zC, i64_w, i32_w]; rfl
               refine pure_ (i := 32) (N := some 88) (v := ?_) (a' := ?_) #[T,T,T,T,T,T,T,T,T,T,T,T,T,T,T,T,T,T,T,T,T,T,T,T,T,T,T,T,T,T,T,T,T,F,F,F,F,F,F,F,F,F,F,F] rfl rfl (any_of HT_.out (by kernel_rfl)) (fun _ _ _ h => h) (Or.inl ⟨by rfl, ?_⟩) ?_ ?_
               rotate_left; intro w'; go_simp; with_reducible rfl; rotate_left; simp only [Act.put, zA, zB, zC, i64_w, i32_w]; rfl
               refine pure_ (i := 33) (N := some 89) (v := ?_) (a' := ?_) #[T,T,T,T,T,T,T,T,T,T,T,T,T,T,T,T,T,T,T,T,T,T,T,T,T,T,T,T,T,T,T,T,T,T,F,F,F,F,F,F,F,F,F,F] rfl rfl (any_of HT_.out (by kernel_rfl)) (fun _ _ _ h => h) (Or.inl ⟨by rfl, ?_⟩) ?_ ?_
               rotate_left; intro w'; go_simp; with_reducible rfl; rotate_left; simp only [Act.put, zA, zB, zC, i64_w, i32_w]; rfl
               refine pure_ (i := 34) (N := some 90) (v := ?_) (a' := ?_) #[T,T,T,T,T,T,T,T,T,T,T,T,T,T,T,T,T,T,T,T,T,T,T,T,T,T,T,T,T,T,T,T,T,T,T,F,F,F,F,F,F,F,F,F] rfl rfl (any_of HT_.out (by kernel_rfl)) (fun _ _ _ h => h) (Or.inl ⟨by rfl, ?_⟩) ?_ ?_
               rotate_left; intro w'; go_simp; with_reducible rfl; rotate_left; simp only [Act.put, zA, zB, zC, i64_w, i32_w]; rfl
               refine pure_ (i := 35) (N := some 91) (v := undef) (a' := ?_) #[T,T,T,T,T,T,T,T,T,T,T,T,T,T,T,T,T,T,T,T,T,T,T,T,T,T,T,T,T,T,T,T,T,T,T,T,F,F,F,F,F,F,F,F] rfl rfl (any_of HT_.out (by kernel_rfl)) (fun _ _ _ h => h) (Or.inr ⟨by rfl, rfl⟩) ?_ ?_
               rotate_left; simp only [Act.put, zA, zB, zC, i64_w, i32_w]; rfl
               refine pure_ (i := 36) (N := some 92) (v := undef) (a' := ?_) #[T,T,T,T,T,T,T,T,T,T,T,T,T,T,T,T,T,T,T,T,T,T,T,T,T,T,T,T,T,T,T,T,T,T,T,T,T,F,F,F,F,F,F,F] rfl rfl (any_of HT_.out (by kernel_rfl)) (fun _ _ _ h => h) (Or.inr ⟨by rfl, rfl⟩) ?_ ?_
               rotate_left; simp only [Act.put, zA, zB, zC, i64_w, i32_w]; rfl
               refine pure_ (i := 37) (N := some 93) (v := undef) (a' := ?_) #[T,T,T,T,T,T,T,T,T,T,T,T,T,T,T,T,T,T,T,T,T,T,T,T,T,T,T,T,T,T,T,T,T,T,T,T,T,T,F,F,F,F,F,F] rfl rfl (any_of HT_.out (by kernel_rfl)) (fun _ _ _ h => h) (Or.inr ⟨by rfl, rfl⟩) ?_ ?_
               rotate_left; simp only [Act.put, zA, zB, zC, i64_w, i32_w]; rfl
               refine pure_ (i := 38) (N := some 94) (v := undef) (a' := ?_) #[T,T,T,T,T,T,T,T,T,T,T,T,T,T,T,T,T,T,T,T,T,T,T,T,T,T,T,T,T,T,T,T,T,T,T,T,T,T,T,F,F,F,F,F] rfl rfl (any_of HT_.out (by kernel_rfl)) (fun _ _ _ h => h) (Or.inr ⟨by rfl, rfl⟩) ?_ ?_
               rotate_left; simp only [Act.put, zA, zB, zC, i64_w, i32_w]; rfl
               refine pure_ (i := 39) (N := some 95) (v := undef) (a' := ?_) #[T,T,T,T,T,T,T,T,T,T,T,T,T,T,T,T,T,T,T,T,T,T,T,T,T,T,T,T,T,T,T,T,T,T,T,T,T,T,T,T,F,F,F,F] rfl rfl (any_of HT_.out (by kernel_rfl)) (fun _ _ _ h => h) (Or.inr ⟨by rfl, rfl⟩) ?_ ?_
               rotate_left; simp only [Act.put, zA, zB, zC, i64_w, i32_w]; rfl
               refine pure_ (i := 40) (N := some 96) (v := undef) (a' := ?_) #[T,T,T,T,T,T,T,T,T,T,T,T,T,T,T,T,T,T,T,T,T,T,T,T,T,T,T,T,T,T,T,T,T,T,T,T,T,T,T,T,T,F,F,F] rfl rfl (any_of HT_.out (by kernel_rfl)) (fun _ _ _ h => h) (Or.inr ⟨by rfl, rfl⟩) ?_ ?_
               rotate_left; simp only [Act.put, zA, zB, zC, i64_w, i32_w]; rfl
               refine pure_ (i := 41) (N := some 97) (v := undef) (a' := ?_) #[T,T,T,T,T,T,T,T,T,T,T,T,T,T,T,T,T,T,T,T,T,T,T,T,T,T,T,T,T,T,T,T,T,T,T,T,T,T,T,T,T,T,F,F] rfl rfl (any_of HT_.out (by kernel_rfl)) (fun _ _ _ h => h) (Or.inr ⟨by rfl, rfl⟩) ?_ ?_
               rotate_left; simp only [Act.put, zA, zB, zC, i64_w, i32_w]; rfl
               refine pure_ (i := 42) (N := some 98) (v := ?_) (a' := ?_) #[T,T,T,T,T,T,T,T,T,T,T,T,T,T,T,T,T,T,T,T,T,T,T,T,T,T,T,T,T,T,T,T,T,T,T,T,T,T,T,T,T,T,T,F] rfl rfl (any_of HT_.out (by kernel_rfl)) (fun _ _ _ h => h) (Or.inl ⟨by rfl, ?_⟩) ?_ ?_
               rotate_left; intro w'; go_simp; with_reducible rfl; rotate_left; simp only [Act.put, zA, zB, zC, i64_w, i32_w]; rfl
               refine pure_ (i := 43) (N := some 2) (v := ?_) (a' := ?_) #[T,T,T,T,T,T,T,T,T,T,T,T,T,T,T,T,T,T,T,T,T,T,T,T,T,T,T,T,T,T,T,T,T,T,T,T,T,T,T,T,T,T,T,T] rfl rfl (any_of HT_.out (by kernel_rfl)) (fun _ _ _ h => h) (Or.inl ⟨by rfl, ?_⟩) ?_ ?_
               rotate_left; intro w'; go_simp; with_reducible rfl; rotate_left; simp only [Act.put, zA, zB, zC, i64_w, i32_w]; rfl
               refine done_ (done_of HT_.out (by kernel_rfl)) ?_
               try go_wp2
               go_ret
               exact ⟨by first | rfl | (simp [errW_none, errW_some] <;> rfl) | (simp [*, errW_none, errW_some] <;> rfl), by repeat (first | (with_reducible first | exact HB.out | apply b5 | apply b4 | apply b6 | refine b7 ?_ GE182.out | refine b7 ?_ GE192.out | refine b7 ?_ GE199.out) | exact HB.out)⟩
             ·rw [if_neg c45] at H
              have c45b0 : (t204 == (wrap64 (t205 - (Int.tmod (rd t183 1) (wrap64 ((Int.tmod (rd t183 0) 60) + 1)))))) = false := beq_eq_false_iff_ne.mpr c45
              have c45b1 : (t204 != (wrap64 (t205 - (Int.tmod (rd t183 1) (wrap64 ((Int.tmod (rd t183 0) 60) + 1)))))) = true := bne_iff_ne.mpr c45
              obtain rfl := Option.some.inj H
              have hnb77 := NB192_182.out
              have hnc77 := NB182_192.out
              have hcz78_0 : wc.cell? ⟨gb192, 0, none⟩ = some (.int .i64 t188) := (b8 BK192.out 0).trans rfl
              have hcz78_1 : wc.cell? ⟨gb192, 1, none⟩ = some (.int .i64 t189) := (b8 BK192.out 1).trans rfl
              have hcz78_2 : wc.cell? ⟨gb192, 2, none⟩ = some (.int .i64 t190) := (b8 BK192.out 2).trans rfl
              have hfz78_0 := blk_frozen BK192.out 0
              have hfz78_1 := blk_frozen BK192.out 1
              have hfz78_2 := blk_frozen BK192.out 2
              try go_wp2_with (first | ((with_reducible refine gate_callee (f := 21) rfl ?_); refine goesL_ (some 53) rfl rfl Try.func21 (by kernel_rfl) rfl #[.agg #[.int .i64 t188, .int .i64 t189, .int .i64 t190], .int .i64 (Int.tmod (rd t183 0) 60), .int .i64 (Int.tmod (rd t183 1) (wrap64 ((Int.tmod (rd t183 0) 60) + 1)))] rfl (by (try simp only [List.map_toArray, List.map_cons, List.map_nil]); first | done | rfl | (simp only [List.length_drop, List.length_take]; rfl)) ?_; (with_reducible refine (impl_Settle.calls t188 t189 t190 (Int.tmod (rd t183 0) 60) (Int.tmod (rd t183 1) (wrap64 ((Int.tmod (rd t183 0) 60) + 1))) t195 t196 t197 true _ A34.out).mono ?_); rintro e w79 ⟨rfl, hb⟩; refine ⟨_, rfl, ?_⟩; have n0_ := Am (blk_below (g := gb182) (o := .cells #[.int .i64 t179, .int .i64 t180, .int .i64 t181] 25 (0, 0)) (by (with_reducible repeat (first | refine b1 ?_ _ | refine b2 ?_ | refine b3 ?_ _)); exact BK182.out) hb); have n1_ := Am (blk_below (g := gb192) (o := .cells #[.int .i64 t188, .int .i64 t189, .int .i64 t190] 25 (0, 0)) (by (with_reducible repeat (first | refine b1 ?_ _ | refine b2 ?_ | refine b3 ?_ _)); exact BK192.out) hb); have n2_ := Am (below_step (by repeat (first | (with_reducible first | exact HB.out | apply b5 | apply b4 | apply b6 | refine b7 ?_ GE182.out | refine b7 ?_ GE192.out) | exact HB.out)) hb); clear BK182; clear BK192; clear HB; have BK182 := n0_; have BK192 := n1_; have HB := n2_; clear n0_ n1_ n2_; (try clear hb); (try clear hb2); (try clear hk); (try clear hi)) | ((with_reducible refine gate_dst (N := 9) rfl ?_); refine box_event ?hg (N := 9) ?hd (cs := #[.int .i64 0, .int .i64 0, .int .i64 0]) (t := 25) ?hr ?_; (case hd => rfl); (case hg => rfl); (case hr => first | (go_simp; done) | (go_simp; rfl)); intro gb199 hg w80 hbox hb; have n0_ := Am (blk_below (g := gb182) (o := .cells #[.int .i64 t179, .int .i64 t180, .int .i64 t181] 25 (0, 0)) (by (with_reducible repeat (first | refine b1 ?_ _ | refine b2 ?_ | refine b3 ?_ _)); exact BK182.out) hb); have n1_ := Am (blk_below (g := gb192) (o := .cells #[.int .i64 t188, .int .i64 t189, .int .i64 t190] 25 (0, 0)) (by (with_reducible repeat (first | refine b1 ?_ _ | refine b2 ?_ | refine b3 ?_ _)); exact BK192.out) hb); have n2_ := Am (below_step (by repeat (first | (with_reducible first | exact HB.out | apply b5 | apply b4 | apply b6 | refine b7 ?_ GE182.out | refine b7 ?_ GE192.out) | exact HB.out)) hb); have n3_ := Am (hbox); have n4_ := Am ((by rw [hg]; exact (below_size (by repeat (first | (with_reducible first | exact HB.out | apply b5 | apply b4 | apply b6 | refine b7 ?_ GE182.out | refine b7 ?_ GE192.out) | exact HB.out))) : w.heap.size ≤ gb199)); have n5_ := Am ((by rw [hg]; exact (below_size (by repeat (first | (with_reducible first | exact HB.out | apply b5 | apply b4 | apply b6 | refine b7 ?_ GE182.out | refine b7 ?_ GE192.out) | exact HB.out))) : w.heap.size ≤ gb199)); have n6_ := Am ((by rw [hg]; exact Nat.ne_of_lt (blk_lt (g := gb182) (o := .cells #[.int .i64 t179, .int .i64 t180, .int .i64 t181] 25 (0, 0)) (by (with_reducible repeat (first | refine b1 ?_ _ | refine b2 ?_ | refine b3 ?_ _)); exact BK182.out)) : gb182 ≠ gb199)); have n7_ := Am ((by rw [hg]; exact Nat.ne_of_gt (blk_lt (g := gb182) (o := .cells #[.int .i64 t179, .int .i64 t180, .int .i64 t181] 25 (0, 0)) (by (with_reducible repeat (first | refine b1 ?_ _ | refine b2 ?_ | refine b3 ?_ _)); exact BK182.out)) : gb199 ≠ gb182)); have n8_ := Am ((by rw [hg]; exact Nat.ne_of_lt (blk_lt (g := gb192) (o := .cells #[.int .i64 t188, .int .i64 t189, .int .i64 t190] 25 (0, 0)) (by (with_reducible repeat (first | refine b1 ?_ _ | refine b2 ?_ | refine b3 ?_ _)); exact BK192.out)) : gb192 ≠ gb199)); have n9_ := Am ((by rw [hg]; exact Nat.ne_of_gt (blk_lt (g := gb192) (o := .cells #[.int .i64 t188, .int .i64 t189, .int .i64 t190] 25 (0, 0)) (by (with_reducible repeat (first | refine b1 ?_ _ | refine b2 ?_ | refine b3 ?_ _)); exact BK192.out)) : gb199 ≠ gb192)); clear BK182; clear BK192; clear HB; have BK182 := n0_; have BK192 := n1_; have HB := n2_; have BK199 := n3_; have GW199 := n4_; have GE199 := n5_; have NB182_199 := n6_; have NB199_182 := n7_; have NB192_199 := n8_; have NB199_192 := n9_; clear n0_ n1_ n2_ n3_ n4_ n5_ n6_ n7_ n8_ n9_; clear hb hbox hg; have hnb81 := NB199_182.out; have hnc81 := NB182_199.out; have hnb82 := NB199_192.out; have hnc82 := NB192_199.out; have hcz83_0 : w80.cell? ⟨gb199, 0, none⟩ = some (.int .i64 0) := (b8 BK199.out 0).trans rfl; have hcz83_1 : w80.cell? ⟨gb199, 1, none⟩ = some (.int .i64 0) := (b8 BK199.out 1).trans rfl; have hcz83_2 : w80.cell? ⟨gb199, 2, none⟩ = some (.int .i64 0) := (b8 BK199.out 2).trans rfl; have hfz83_0 := blk_frozen BK199.out 0; have hfz83_1 := blk_frozen BK199.out 1; have hfz83_2 := blk_frozen BK199.out 2))
              have n0_ : Aside0 ((((w80.setCell ⟨gb199, 0, none⟩ (.int .i64 t195)).setCell ⟨gb199, 1, none⟩ (.int .i64 t196)).setCell ⟨gb199, 2, none⟩ (.int .i64 t197)).heap[gb182]? = some (.cells #[.int .i64 t179, .int .i64 t180, .int .i64 t181] 25 (0, 0))) := ⟨by (with_reducible repeat (first | refine b1 ?_ _ | refine b2 ?_ | refine b3 ?_ _)); refine blk_far ?_ NB182_199.out _; (with_reducible repeat (first | refine b1 ?_ _ | refine b2 ?_ | refine b3 ?_ _)); refine blk_far ?_ NB182_199.out _; (with_reducible repeat (first | refine b1 ?_ _ | refine b2 ?_ | refine b3 ?_ _)); refine blk_far ?_ NB182_199.out _; (with_reducible repeat (first | refine b1 ?_ _ | refine b2 ?_ | refine b3 ?_ _)); exact BK182.out⟩
              have n1_ : Aside0 ((((w80.setCell ⟨gb199, 0, none⟩ (.int .i64 t195)).setCell ⟨gb199, 1, none⟩ (.int .i64 t196)).setCell ⟨gb199, 2, none⟩ (.int .i64 t197)).heap[gb192]? = some (.cells #[.int .i64 t188, .int .i64 t189, .int .i64 t190] 25 (0, 0))) := ⟨by (with_reducible repeat (first | refine b1 ?_ _ | refine b2 ?_ | refine b3 ?_ _)); refine blk_far ?_ NB192_199.out _; (with_reducible repeat (first | refine b1 ?_ _ | refine b2 ?_ | refine b3 ?_ _)); refine blk_far ?_ NB192_199.out _; (with_reducible repeat (first | refine b1 ?_ _ | refine b2 ?_ | refine b3 ?_ _)); refine blk_far ?_ NB192_199.out _; (with_reducible repeat (first | refine b1 ?_ _ | refine b2 ?_ | refine b3 ?_ _)); exact BK192.out⟩
              have n2_ : Aside0 ((((w80.setCell ⟨gb199, 0, none⟩ (.int .i64 t195)).setCell ⟨gb199, 1, none⟩ (.int .i64 t196)).setCell ⟨gb199, 2, none⟩ (.int .i64 t197)).heap[gb199]? = some (.cells #[.int .i64 t195, .int .i64 t196, .int .i64 t197] 25 (0, 0))) := ⟨by (with_reducible repeat (first | refine b1 ?_ _ | refine b2 ?_ | refine b3 ?_ _)); refine blk_put (cs := #[.int .i64 t195, .int .i64 t196, .int .i64 0]) ?_ 2 _ rfl; (with_reducible repeat (first | refine b1 ?_ _ | refine b2 ?_ | refine b3 ?_ _)); refine blk_put (cs := #[.int .i64 t195, .int .i64 0, .int .i64 0]) ?_ 1 _ rfl; (with_reducible repeat (first | refine b1 ?_ _ | refine b2 ?_ | refine b3 ?_ _)); refine blk_put (cs := #[.int .i64 0, .int .i64 0, .int .i64 0]) ?_ 0 _ rfl; (with_reducible repeat (first | refine b1 ?_ _ | refine b2 ?_ | refine b3 ?_ _)); exact BK199.out⟩
              have n3_ : Aside0 (Below w.heap.size w (((w80.setCell ⟨gb199, 0, none⟩ (.int .i64 t195)).setCell ⟨gb199, 1, none⟩ (.int .i64 t196)).setCell ⟨gb199, 2, none⟩ (.int .i64 t197))) := ⟨by repeat (first | (with_reducible first | exact HB.out | apply b5 | apply b4 | apply b6 | refine b7 ?_ GE182.out | refine b7 ?_ GE192.out | refine b7 ?_ GE199.out) | exact HB.out)⟩
              (try clear BK182)
              (try clear BK192)
              (try clear BK199)
              (try clear HB)
              generalize (((w80.setCell ⟨gb199, 0, none⟩ (.int .i64 t195)).setCell ⟨gb199, 1, none⟩ (.int .i64 t196)).setCell ⟨gb199, 2, none⟩ (.int .i64 t197)) = w84 at n0_ n1_ n2_ n3_ ⊢
              have BK182 := n0_
              have BK192 := n1_
              have BK199 := n2_
              have HB := n3_
              clear n0_ n1_ n2_ n3_
              have n0_ := Am (b2 BK182.out)
              have n1_ := Am (b2 BK192.out)
              have n2_ := Am (b2 BK199.out)
              have n3_ := Am (b6 HB.out)
              clear BK182
              clear BK192
              clear BK199
              clear HB
              have BK182 := n0_
              have BK192 := n1_
              have BK199 := n2_
              have HB := n3_
              clear n0_ n1_ n2_ n3_
              refine start_ (n := 44) (S := fun w' => w'.cell? ⟨gb192, 0, none⟩ = some (.int .i64 t188) ∧ w'.cell? ⟨gb192, 1, none⟩ = some (.int .i64 t189) ∧ w'.cell? ⟨gb192, 2, none⟩ = some (.int .i64 t190) ∧ w'.cell? ⟨gb199, 0, none⟩ = some (.int .i64 t195) ∧ w'.cell? ⟨gb199, 1, none⟩ = some (.int .i64 t196) ∧ w'.cell? ⟨gb199, 2, none⟩ = some (.int .i64 t197) ∧ w'.cell? ⟨gb182, 0, none⟩ = some (.int .i64 t179) ∧ w'.cell? ⟨gb182, 1, none⟩ = some (.int .i64 t180) ∧ w'.cell? ⟨gb182, 2, none⟩ = some (.int .i64 t181)) (ds := []) #[F,F,F,F,F,F,F,F,F,F,F,F,F,F,F,F,F,F,F,F,F,F,F,F,F,F,F,F,F,F,F,F,F,F,F,F,F,F,F,F,F,F,F,F] (by kernel_rfl) rfl rfl ⟨(b8 BK192.out 0).trans rfl, (b8 BK192.out 1).trans rfl, (b8 BK192.out 2).trans rfl, (b8 BK199.out 0).trans rfl, (b8 BK199.out 1).trans rfl, (b8 BK199.out 2).trans rfl, (b8 BK182.out 0).trans rfl, (b8 BK182.out 1).trans rfl, (b8 BK182.out 2).trans rfl⟩ (fun hHeld => ?_); refine with_tabW laws_FnAccounts.tab13 laws_FnAccounts.bits13 (fun HT_ HW_ => ?_)
              generalize w84.drew = w85 at BK182 BK192 BK199 HB hHeld ⊢
              refine pure_ (i := 0) (N := some 56) (v := ?_) (a' := ?_) #[T,F,F,F,F,F,F,F,F,F,F,F,F,F,F,F,F,F,F,F,F,F,F,F,F,F,F,F,F,F,F,F,F,F,F,F,F,F,F,F,F,F,F,F] rfl rfl (any_of HT_.out (by kernel_rfl)) (fun _ _ _ h => h) (Or.inl ⟨by rfl, ?_⟩) ?_ ?_
              rotate_left; intro w'; go_simp; with_reducible rfl; rotate_left; simp only [Act.put, zA, zB, zC, i64_w, i32_w]; rfl
              refine pure_ (i := 1) (N := some 57) (v := ?_) (a' := ?_) #[T,T,F,F,F,F,F,F,F,F,F,F,F,F,F,F,F,F,F,F,F,F,F,F,F,F,F,F,F,F,F,F,F,F,F,F,F,F,F,F,F,F,F,F] rfl rfl (any_of HT_.out (by kernel_rfl)) (fun _ _ _ h => h) (Or.inl ⟨by rfl, ?_⟩) ?_ ?_
              rotate_left; intro w'; go_simp; with_reducible rfl; rotate_left; simp only [Act.put, zA, zB, zC, i64_w, i32_w]; rfl
              refine take_ (i := 2) (N := some 58) (v := ?_) (a' := ?_) #[T,T,T,F,F,F,F,F,F,F,F,F,F,F,F,F,F,F,F,F,F,F,F,F,F,F,F,F,F,F,F,F,F,F,F,F,F,F,F,F,F,F,F,F] rfl rfl (take_ofW HT_.out HW_.out (by kernel_rfl)) (fun _ _ _ h => h) (Or.inl ⟨by rfl, ?_⟩) hHeld ?_ ?_
              rotate_left; rintro w' ⟨s0, s1, s2, s3, s4, s5, s6, s7, s8⟩; go_simp; with_reducible rfl; rotate_left; simp only [Act.put, zA, zB, zC, i64_w, i32_w]; rfl
              refine one_ (i := 3) (N := some 59) #[T,T,T,T,F,F,F,F,F,F,F,F,F,F,F,F,F,F,F,F,F,F,F,F,F,F,F,F,F,F,F,F,F,F,F,F,F,F,F,F,F,F,F,F] rfl rfl (one_of HT_.out (by kernel_rfl)) (by decide) (fun K hK => ?_)
              refine goes_ Try.func19 (by kernel_rfl) rfl #[.agg #[.int .i64 t188, .int .i64 t189, .int .i64 t190]] (by rfl) rfl rfl (by (try simp only [List.map_toArray, List.map_cons, List.map_nil]); first | done | rfl | (simp only [List.length_drop, List.length_take]; rfl)) ?_
              with_reducible refine (impl_AccountOk.calls t188 t189 t190 true _ A36.out).mono ?_
              rintro e w86 ⟨rfl, hb⟩
              refine ⟨_, rfl, ?_⟩
              have n0_ := Am (blk_below (g := gb182) (o := .cells #[.int .i64 t179, .int .i64 t180, .int .i64 t181] 25 (0, 0)) (by (with_reducible repeat (first | refine b1 ?_ _ | refine b2 ?_ | refine b3 ?_ _)); exact BK182.out) hb)
              have n1_ := Am (blk_below (g := gb192) (o := .cells #[.int .i64 t188, .int .i64 t189, .int .i64 t190] 25 (0, 0)) (by (with_reducible repeat (first | refine b1 ?_ _ | refine b2 ?_ | refine b3 ?_ _)); exact BK192.out) hb)
              have n2_ := Am (blk_below (g := gb199) (o := .cells #[.int .i64 t195, .int .i64 t196, .int .i64 t197] 25 (0, 0)) (by (with_reducible repeat (first | refine b1 ?_ _ | refine b2 ?_ | refine b3 ?_ _)); exact BK199.out) hb)
              have n3_ := Am (below_step (by repeat (first | (with_reducible first | exact HB.out | apply b5 | apply b4 | apply b6 | refine b7 ?_ GE182.out | refine b7 ?_ GE192.out | refine b7 ?_ GE199.out) | exact HB.out)) hb)
              clear BK182
              clear BK192
              clear BK199
              clear HB
              have BK182 := n0_
              have BK192 := n1_
              have BK199 := n2_
              have HB := n3_
              clear n0_ n1_ n2_ n3_
              (try clear hb)
              (try clear hb2)
              (try clear hk)
              (try clear hi)
              refine hK.out _ _ ⟨(b8 BK192.out 0).trans rfl, (b8 BK192.out 1).trans rfl, (b8 BK192.out 2).trans rfl, (b8 BK199.out 0).trans rfl, (b8 BK199.out 1).trans rfl, (b8 BK199.out 2).trans rfl, (b8 BK182.out 0).trans rfl, (b8 BK182.out 1).trans rfl, (b8 BK182.out 2).trans rfl⟩ (fun hHeld => ?_)
              clear hK K
              refine norm_ (a' := ?_) ?_ ?_
              rotate_left
              ·show Act.put _ (some 59) _ = _
               simp only [Act.put, zA, zB, zC, i64_w, i32_w]
               rfl
              refine pure_ (i := 4) (N := some 60) (v := ?_) (a' := ?_) #[T,T,T,T,T,F,F,F,F,F,F,F,F,F,F,F,F,F,F,F,F,F,F,F,F,F,F,F,F,F,F,F,F,F,F,F,F,F,F,F,F,F,F,F] rfl rfl (any_of HT_.out (by kernel_rfl)) (fun _ _ _ h => h) (Or.inl ⟨by rfl, ?_⟩) ?_ ?_
              rotate_left; intro w'; go_simp; with_reducible rfl; rotate_left; simp only [Act.put, zA, zB, zC, i64_w, i32_w]; rfl
              refine pure_ (i := 5) (N := some 61) (v := ?_) (a' := ?_) #[T,T,T,T,T,T,F,F,F,F,F,F,F,F,F,F,F,F,F,F,F,F,F,F,F,F,F,F,F,F,F,F,F,F,F,F,F,F,F,F,F,F,F,F] rfl rfl (any_of HT_.out (by kernel_rfl)) (fun _ _ _ h => h) (Or.inl ⟨by rfl, ?_⟩) ?_ ?_
              rotate_left; intro w'; go_simp; with_reducible rfl; rotate_left; simp only [Act.put, zA, zB, zC, i64_w, i32_w]; rfl
              refine take_ (i := 6) (N := some 62) (v := ?_) (a' := ?_) #[T,T,T,T,T,T,T,F,F,F,F,F,F,F,F,F,F,F,F,F,F,F,F,F,F,F,F,F,F,F,F,F,F,F,F,F,F,F,F,F,F,F,F,F] rfl rfl (take_ofW HT_.out HW_.out (by kernel_rfl)) (fun _ _ _ h => h) (Or.inl ⟨by rfl, ?_⟩) hHeld ?_ ?_
              rotate_left; rintro w' ⟨s0, s1, s2, s3, s4, s5, s6, s7, s8⟩; go_simp; with_reducible rfl; rotate_left; simp only [Act.put, zA, zB, zC, i64_w, i32_w]; rfl
              refine one_ (i := 7) (N := some 63) #[T,T,T,T,T,T,T,T,F,F,F,F,F,F,F,F,F,F,F,F,F,F,F,F,F,F,F,F,F,F,F,F,F,F,F,F,F,F,F,F,F,F,F,F] rfl rfl (one_of HT_.out (by kernel_rfl)) (by decide) (fun K hK => ?_)
              refine goes_ Try.func19 (by kernel_rfl) rfl #[.agg #[.int .i64 t195, .int .i64 t196, .int .i64 t197]] (by rfl) rfl rfl (by (try simp only [List.map_toArray, List.map_cons, List.map_nil]); first | done | rfl | (simp only [List.length_drop, List.length_take]; rfl)) ?_
              with_reducible refine (impl_AccountOk.calls t195 t196 t197 true _ A38.out).mono ?_
              rintro e w87 ⟨rfl, hb⟩
              refine ⟨_, rfl, ?_⟩
              have n0_ := Am (blk_below (g := gb182) (o := .cells #[.int .i64 t179, .int .i64 t180, .int .i64 t181] 25 (0, 0)) (by (with_reducible repeat (first | refine b1 ?_ _ | refine b2 ?_ | refine b3 ?_ _)); exact BK182.out) hb)
              have n1_ := Am (blk_below (g := gb192) (o := .cells #[.int .i64 t188, .int .i64 t189, .int .i64 t190] 25 (0, 0)) (by (with_reducible repeat (first | refine b1 ?_ _ | refine b2 ?_ | refine b3 ?_ _)); exact BK192.out) hb)
              have n2_ := Am (blk_below (g := gb199) (o := .cells #[.int .i64 t195, .int .i64 t196, .int .i64 t197] 25 (0, 0)) (by (with_reducible repeat (first | refine b1 ?_ _ | refine b2 ?_ | refine b3 ?_ _)); exact BK199.out) hb)
              have n3_ := Am (below_step (by repeat (first | (with_reducible first | exact HB.out | apply b5 | apply b4 | apply b6 | refine b7 ?_ GE182.out | refine b7 ?_ GE192.out | refine b7 ?_ GE199.out) | exact HB.out)) hb)
              clear BK182
              clear BK192
              clear BK199
              clear HB
              have BK182 := n0_
              have BK192 := n1_
              have BK199 := n2_
              have HB := n3_
              clear n0_ n1_ n2_ n3_
              (try clear hb)
              (try clear hb2)
              (try clear hk)
              (try clear hi)
              refine hK.out _ _ ⟨(b8 BK192.out 0).trans rfl, (b8 BK192.out 1).trans rfl, (b8 BK192.out 2).trans rfl, (b8 BK199.out 0).trans rfl, (b8 BK199.out 1).trans rfl, (b8 BK199.out 2).trans rfl, (b8 BK182.out 0).trans rfl, (b8 BK182.out 1).trans rfl, (b8 BK182.out 2).trans rfl⟩ (fun hHeld => ?_)
              clear hK K
              refine norm_ (a' := ?_) ?_ ?_
              rotate_left
              ·show Act.put _ (some 63) _ = _
               simp only [Act.put, zA, zB, zC, i64_w, i32_w]
               rfl
              refine pure_ (i := 8) (N := some 64) (v := ?_) (a' := ?_) #[T,T,T,T,T,T,T,T,T,F,F,F,F,F,F,F,F,F,F,F,F,F,F,F,F,F,F,F,F,F,F,F,F,F,F,F,F,F,F,F,F,F,F,F] rfl rfl (any_of HT_.out (by kernel_rfl)) (fun _ _ _ h => h) (Or.inl ⟨by rfl, ?_⟩) ?_ ?_
              rotate_left; intro w'; go_simp; with_reducible rfl; rotate_left; simp only [Act.put, zA, zB, zC, i64_w, i32_w]; rfl
              refine pure_ (i := 9) (N := some 65) (v := ?_) (a' := ?_) #[T,T,T,T,T,T,T,T,T,T,F,F,F,F,F,F,F,F,F,F,F,F,F,F,F,F,F,F,F,F,F,F,F,F,F,F,F,F,F,F,F,F,F,F] rfl rfl (any_of HT_.out (by kernel_rfl)) (fun _ _ _ h => h) (Or.inl ⟨by rfl, ?_⟩) ?_ ?_
              rotate_left; intro w'; go_simp; with_reducible rfl; rotate_left; simp only [Act.put, zA, zB, zC, i64_w, i32_w]; rfl
              refine pure_ (i := 14) (N := some 70) (v := ?_) (a' := ?_) #[T,T,T,T,T,T,T,T,T,T,F,F,F,F,T,F,F,F,F,F,F,F,F,F,F,F,F,F,F,F,F,F,F,F,F,F,F,F,F,F,F,F,F,F] rfl rfl (any_of HT_.out (by kernel_rfl)) (fun _ _ _ h => h) (Or.inl ⟨by rfl, ?_⟩) ?_ ?_
              rotate_left; intro w'; go_simp; with_reducible rfl; rotate_left; simp only [Act.put, zA, zB, zC, i64_w, i32_w]; rfl
              refine take_ (i := 10) (N := some 66) (v := ?_) (a' := ?_) #[T,T,T,T,T,T,T,T,T,T,T,F,F,F,T,F,F,F,F,F,F,F,F,F,F,F,F,F,F,F,F,F,F,F,F,F,F,F,F,F,F,F,F,F] rfl rfl (take_ofW HT_.out HW_.out (by kernel_rfl)) (fun _ _ _ h => h) (Or.inl ⟨by rfl, ?_⟩) hHeld ?_ ?_
              rotate_left; rintro w' ⟨s0, s1, s2, s3, s4, s5, s6, s7, s8⟩; go_simp; with_reducible rfl; rotate_left; simp only [Act.put, zA, zB, zC, i64_w, i32_w]; rfl
              refine take_ (i := 12) (N := some 68) (v := ?_) (a' := ?_) #[T,T,T,T,T,T,T,T,T,T,T,F,T,F,T,F,F,F,F,F,F,F,F,F,F,F,F,F,F,F,F,F,F,F,F,F,F,F,F,F,F,F,F,F] rfl rfl (take_ofW HT_.out HW_.out (by kernel_rfl)) (fun _ _ _ h => h) (Or.inl ⟨by rfl, ?_⟩) hHeld ?_ ?_
              rotate_left; rintro w' ⟨s0, s1, s2, s3, s4, s5, s6, s7, s8⟩; go_simp; with_reducible rfl; rotate_left; simp only [Act.put, zA, zB, zC, i64_w, i32_w]; rfl
              refine one_ (i := 11) (N := some 67) #[T,T,T,T,T,T,T,T,T,T,T,T,T,F,T,F,F,F,F,F,F,F,F,F,F,F,F,F,F,F,F,F,F,F,F,F,F,F,F,F,F,F,F,F] rfl rfl (one_of HT_.out (by kernel_rfl)) (by decide) (fun K hK => ?_)
              refine goes_ Try.func20 (by kernel_rfl) rfl #[.agg #[.int .i64 t188, .int .i64 t189, .int .i64 t190]] (by rfl) rfl rfl (by (try simp only [List.map_toArray, List.map_cons, List.map_nil]); first | done | rfl | (simp only [List.length_drop, List.length_take]; rfl)) ?_
              with_reducible refine (impl_FreeSheets.calls t188 t189 t190 t202 _ A40.out).mono ?_
              rintro e w88 ⟨rfl, hb⟩
              refine ⟨_, rfl, ?_⟩
              have n0_ := Am (blk_below (g := gb182) (o := .cells #[.int .i64 t179, .int .i64 t180, .int .i64 t181] 25 (0, 0)) (by (with_reducible repeat (first | refine b1 ?_ _ | refine b2 ?_ | refine b3 ?_ _)); exact BK182.out) hb)
              have n1_ := Am (blk_below (g := gb192) (o := .cells #[.int .i64 t188, .int .i64 t189, .int .i64 t190] 25 (0, 0)) (by (with_reducible repeat (first | refine b1 ?_ _ | refine b2 ?_ | refine b3 ?_ _)); exact BK192.out) hb)
              have n2_ := Am (blk_below (g := gb199) (o := .cells #[.int .i64 t195, .int .i64 t196, .int .i64 t197] 25 (0, 0)) (by (with_reducible repeat (first | refine b1 ?_ _ | refine b2 ?_ | refine b3 ?_ _)); exact BK199.out) hb)
              have n3_ := Am (below_step (by repeat (first | (with_reducible first | exact HB.out | apply b5 | apply b4 | apply b6 | refine b7 ?_ GE182.out | refine b7 ?_ GE192.out | refine b7 ?_ GE199.out) | exact HB.out)) hb)
              clear BK182
              clear BK192
              clear BK199
              clear HB
              have BK182 := n0_
              have BK192 := n1_
              have BK199 := n2_
              have HB := n3_
              clear n0_ n1_ n2_ n3_
              (try clear hb)
              (try clear hb2)
              (try clear hk)
              (try clear hi)
              refine hK.out _ _ ⟨(b8 BK192.out 0).trans rfl, (b8 BK192.out 1).trans rfl, (b8 BK192.out 2).trans rfl, (b8 BK199.out 0).trans rfl, (b8 BK199.out 1).trans rfl, (b8 BK199.out 2).trans rfl, (b8 BK182.out 0).trans rfl, (b8 BK182.out 1).trans rfl, (b8 BK182.out 2).trans rfl⟩ (fun hHeld => ?_)
              clear hK K
              refine norm_ (a' := ?_) ?_ ?_
              rotate_left
              ·show Act.put _ (some 67) _ = _
               simp only [Act.put, zA, zB, zC, i64_w, i32_w]
               rfl
              refine one_ (i := 13) (N := some 69) #[T,T,T,T,T,T,T,T,T,T,T,T,T,T,T,F,F,F,F,F,F,F,F,F,F,F,F,F,F,F,F,F,F,F,F,F,F,F,F,F,F,F,F,F] rfl rfl (one_of HT_.out (by kernel_rfl)) (by decide) (fun K hK => ?_)
              refine goes_ Try.func20 (by kernel_rfl) rfl #[.agg #[.int .i64 t179, .int .i64 t180, .int .i64 t181]] (by rfl) rfl rfl (by (try simp only [List.map_toArray, List.map_cons, List.map_nil]); first | done | rfl | (simp only [List.length_drop, List.length_take]; rfl)) ?_
              with_reducible refine (impl_FreeSheets.calls t179 t180 t181 t203 _ A41.out).mono ?_
              rintro e w89 ⟨rfl, hb⟩
              refine ⟨_, rfl, ?_⟩
              have n0_ := Am (blk_below (g := gb182) (o := .cells #[.int .i64 t179, .int .i64 t180, .int .i64 t181] 25 (0, 0)) (by (with_reducible repeat (first | refine b1 ?_ _ | refine b2 ?_ | refine b3 ?_ _)); exact BK182.out) hb)
              have n1_ := Am (blk_below (g := gb192) (o := .cells #[.int .i64 t188, .int .i64 t189, .int .i64 t190] 25 (0, 0)) (by (with_reducible repeat (first | refine b1 ?_ _ | refine b2 ?_ | refine b3 ?_ _)); exact BK192.out) hb)
              have n2_ := Am (blk_below (g := gb199) (o := .cells #[.int .i64 t195, .int .i64 t196, .int .i64 t197] 25 (0, 0)) (by (with_reducible repeat (first | refine b1 ?_ _ | refine b2 ?_ | refine b3 ?_ _)); exact BK199.out) hb)
              have n3_ := Am (below_step (by repeat (first | (with_reducible first | exact HB.out | apply b5 | apply b4 | apply b6 | refine b7 ?_ GE182.out | refine b7 ?_ GE192.out | refine b7 ?_ GE199.out) | exact HB.out)) hb)
              clear BK182
              clear BK192
              clear BK199
              clear HB
              have BK182 := n0_
              have BK192 := n1_
              have BK199 := n2_
              have HB := n3_
              clear n0_ n1_ n2_ n3_
              (try clear hb)
              (try clear hb2)
              (try clear hk)
              (try clear hi)
              refine hK.out _ _ ⟨(b8 BK192.out 0).trans rfl, (b8 BK192.out 1).trans rfl, (b8 BK192.out 2).trans rfl, (b8 BK199.out 0).trans rfl, (b8 BK199.out 1).trans rfl, (b8 BK199.out 2).trans rfl, (b8 BK182.out 0).trans rfl, (b8 BK182.out 1).trans rfl, (b8 BK182.out 2).trans rfl⟩ (fun hHeld => ?_)
              clear hK K
              refine norm_ (a' := ?_) ?_ ?_
              rotate_left
              ·show Act.put _ (some 69) _ = _
               simp only [Act.put, zA, zB, zC, i64_w, i32_w]
               rfl
              refine pure_ (i := 15) (N := some 71) (v := ?_) (a' := ?_) #[T,T,T,T,T,T,T,T,T,T,T,T,T,T,T,T,F,F,F,F,F,F,F,F,F,F,F,F,F,F,F,F,F,F,F,F,F,F,F,F,F,F,F,F] rfl rfl (any_of HT_.out (by kernel_rfl)) (fun _ _ _ h => h) (Or.inl ⟨by rfl, ?_⟩) ?_ ?_
              rotate_left; intro w'; go_simp; with_reducible rfl; rotate_left; simp only [Act.put, zA, zB, zC, i64_w, i32_w]; rfl
              refine pure_ (i := 16) (N := some 72) (v := ?_) (a' := ?_) #[T,T,T,T,T,T,T,T,T,T,T,T,T,T,T,T,T,F,F,F,F,F,F,F,F,F,F,F,F,F,F,F,F,F,F,F,F,F,F,F,F,F,F,F] rfl rfl (any_of HT_.out (by kernel_rfl)) (fun _ _ _ h => h) (Or.inl ⟨by rfl, ?_⟩) ?_ ?_
              rotate_left; intro w'; go_simp; with_reducible rfl; rotate_left; simp only [Act.put, zA, zB, zC, i64_w, i32_w]; rfl
              refine pure_ (i := 17) (N := some 73) (v := ?_) (a' := ?_) #[T,T,T,T,T,T,T,T,T,T,T,T,T,T,T,T,T,T,F,F,F,F,F,F,F,F,F,F,F,F,F,F,F,F,F,F,F,F,F,F,F,F,F,F] rfl rfl (any_of HT_.out (by kernel_rfl)) (fun _ _ _ h => h) (Or.inl ⟨by rfl, ?_⟩) ?_ ?_
              rotate_left; intro w'; go_simp; with_reducible rfl; rotate_left; simp only [Act.put, zA, zB, zC, i64_w, i32_w]; rfl
              refine pure_ (i := 18) (N := some 74) (v := ?_) (a' := ?_) #[T,T,T,T,T,T,T,T,T,T,T,T,T,T,T,T,T,T,T,F,F,F,F,F,F,F,F,F,F,F,F,F,F,F,F,F,F,F,F,F,F,F,F,F] rfl rfl (any_of HT_.out (by kernel_rfl)) (fun _ _ _ h => h) (Or.inl ⟨by rfl, ?_⟩) ?_ ?_
              rotate_left; intro w'; go_simp; with_reducible rfl; rotate_left; simp only [Act.put, zA, zB, zC, i64_w, i32_w]; rfl
              refine pure_ (i := 23) (N := some 79) (v := ?_) (a' := ?_) #[T,T,T,T,T,T,T,T,T,T,T,T,T,T,T,T,T,T,T,F,F,F,F,T,F,F,F,F,F,F,F,F,F,F,F,F,F,F,F,F,F,F,F,F] rfl rfl (any_of HT_.out (by kernel_rfl)) (fun _ _ _ h => h) (Or.inl ⟨by rfl, ?_⟩) ?_ ?_
              rotate_left; intro w'; go_simp; with_reducible rfl; rotate_left; simp only [Act.put, zA, zB, zC, i64_w, i32_w]; rfl
              refine take_ (i := 19) (N := some 75) (v := ?_) (a' := ?_) #[T,T,T,T,T,T,T,T,T,T,T,T,T,T,T,T,T,T,T,T,F,F,F,T,F,F,F,F,F,F,F,F,F,F,F,F,F,F,F,F,F,F,F,F] rfl rfl (take_ofW HT_.out HW_.out (by kernel_rfl)) (fun _ _ _ h => h) (Or.inl ⟨by rfl, ?_⟩) hHeld ?_ ?_
              rotate_left; rintro w' ⟨s0, s1, s2, s3, s4, s5, s6, s7, s8⟩; go_simp; with_reducible rfl; rotate_left; simp only [Act.put, zA, zB, zC, i64_w, i32_w]; rfl
              refine take_ (i := 21) (N := some 77) (v := ?_) (a' := ?_) #[T,T,T,T,T,T,T,T,T,T,T,T,T,T,T,T,T,T,T,T,F,T,F,T,F,F,F,F,F,F,F,F,F,F,F,F,F,F,F,F,F,F,F,F] rfl rfl (take_ofW HT_.out HW_.out (by kernel_rfl)) (fun _ _ _ h => h) (Or.inl ⟨by rfl, ?_⟩) hHeld ?_ ?_
              rotate_left; rintro w' ⟨s0, s1, s2, s3, s4, s5, s6, s7, s8⟩; go_simp; with_reducible rfl; rotate_left; simp only [Act.put, zA, zB, zC, i64_w, i32_w]; rfl
              refine one_ (i := 20) (N := some 76) #[T,T,T,T,T,T,T,T,T,T,T,T,T,T,T,T,T,T,T,T,T,T,F,T,F,F,F,F,F,F,F,F,F,F,F,F,F,F,F,F,F,F,F,F] rfl rfl (one_of HT_.out (by kernel_rfl)) (by decide) (fun K hK => ?_)
              refine goes_ Try.func20 (by kernel_rfl) rfl #[.agg #[.int .i64 t195, .int .i64 t196, .int .i64 t197]] (by rfl) rfl rfl (by (try simp only [List.map_toArray, List.map_cons, List.map_nil]); first | done | rfl | (simp only [List.length_drop, List.length_take]; rfl)) ?_
              with_reducible refine (impl_FreeSheets.calls t195 t196 t197 t204 _ A43.out).mono ?_
              rintro e w90 ⟨rfl, hb⟩
              refine ⟨_, rfl, ?_⟩
              have n0_ := Am (blk_below (g := gb182) (o := .cells #[.int .i64 t179, .int .i64 t180, .int .i64 t181] 25 (0, 0)) (by (with_reducible repeat (first | refine b1 ?_ _ | refine b2 ?_ | refine b3 ?_ _)); exact BK182.out) hb)
              have n1_ := Am (blk_below (g := gb192) (o := .cells #[.int .i64 t188, .int .i64 t189, .int .i64 t190] 25 (0, 0)) (by (with_reducible repeat (first | refine b1 ?_ _ | refine b2 ?_ | refine b3 ?_ _)); exact BK192.out) hb)
              have n2_ := Am (blk_below (g := gb199) (o := .cells #[.int .i64 t195, .int .i64 t196, .int .i64 t197] 25 (0, 0)) (by (with_reducible repeat (first | refine b1 ?_ _ | refine b2 ?_ | refine b3 ?_ _)); exact BK199.out) hb)
              have n3_ := Am (below_step (by repeat (first | (with_reducible first | exact HB.out | apply b5 | apply b4 | apply b6 | refine b7 ?_ GE182.out | refine b7 ?_ GE192.out | refine b7 ?_ GE199.out) | exact HB.out)) hb)
              clear BK182
              clear BK192
              clear BK199
              clear HB
              have BK182 := n0_
              have BK192 := n1_
              have BK199 := n2_
              have HB := n3_
              clear n0_ n1_ n2_ n3_
              (try clear hb)
              (try clear hb2)
              (try clear hk)
              (try clear hi)
              refine hK.out _ _ ⟨(b8 BK192.out 0).trans rfl, (b8 BK192.out 1).trans rfl, (b8 BK192.out 2).trans rfl, (b8 BK199.out 0).trans rfl, (b8 BK199.out 1).trans rfl, (b8 BK199.out 2).trans rfl, (b8 BK182.out 0).trans rfl, (b8 BK182.out 1).trans rfl, (b8 BK182.out 2).trans rfl⟩ (fun hHeld => ?_)
              clear hK K
              refine norm_ (a' := ?_) ?_ ?_
              rotate_left
              ·show Act.put _ (some 76) _ = _
               simp only [Act.put, zA, zB, zC, i64_w, i32_w]
               rfl
              refine one_ (i := 22) (N := some 78) #[T,T,T,T,T,T,T,T,T,T,T,T,T,T,T,T,T,T,T,T,T,T,T,T,F,F,F,F,F,F,F,F,F,F,F,F,F,F,F,F,F,F,F,F] rfl rfl (one_of HT_.out (by kernel_rfl)) (by decide) (fun K hK => ?_)
              refine goes_ Try.func20 (by kernel_rfl) rfl #[.agg #[.int .i64 t179, .int .i64 t180, .int .i64 t181]] (by rfl) rfl rfl (by (try simp only [List.map_toArray, List.map_cons, List.map_nil]); first | done | rfl | (simp only [List.length_drop, List.length_take]; rfl)) ?_
              with_reducible refine (impl_FreeSheets.calls t179 t180 t181 t205 _ A44.out).mono ?_
              rintro e w91 ⟨rfl, hb⟩
              refine ⟨_, rfl, ?_⟩
              have n0_ := Am (blk_below (g := gb182) (o := .cells #[.int .i64 t179, .int .i64 t180, .int .i64 t181] 25 (0, 0)) (by (with_reducible repeat (first | refine b1 ?_ _ | refine b2 ?_ | refine b3 ?_ _)); exact BK182.out) hb)
              have n1_ := Am (blk_below (g := gb192) (o := .cells #[.int .i64 t188, .int .i64 t189, .int .i64 t190] 25 (0, 0)) (by (with_reducible repeat (first | refine b1 ?_ _ | refine b2 ?_ | refine b3 ?_ _)); exact BK192.out) hb)
              have n2_ := Am (blk_below (g := gb199) (o := .cells #[.int .i64 t195, .int .i64 t196, .int .i64 t197] 25 (0, 0)) (by (with_reducible repeat (first | refine b1 ?_ _ | refine b2 ?_ | refine b3 ?_ _)); exact BK199.out) hb)
              have n3_ := Am (below_step (by repeat (first | (with_reducible first | exact HB.out | apply b5 | apply b4 | apply b6 | refine b7 ?_ GE182.out | refine b7 ?_ GE192.out | refine b7 ?_ GE199.out) | exact HB.out)) hb)
              clear BK182
              clear BK192
              clear BK199
              clear HB
              have BK182 := n0_
              have BK192 := n1_
              have BK199 := n2_
              have HB := n3_
              clear n0_ n1_ n2_ n3_
              (try clear hb)
              (try clear hb2)
              (try clear hk)
              (try clear hi)
              refine hK.out _ _ ⟨(b8 BK192.out 0).trans rfl, (b8 BK192.out 1).trans rfl, (b8 BK192.out 2).trans rfl, (b8 BK199.out 0).trans rfl, (b8 BK199.out 1).trans rfl, (b8 BK199.out 2).trans rfl, (b8 BK182.out 0).trans rfl, (b8 BK182.out 1).trans rfl, (b8 BK182.out 2).trans rfl⟩ (fun hHeld => ?_)
              clear hK K
              refine norm_ (a' := ?_) ?_ ?_
              rotate_left
              ·show Act.put _ (some 78) _ = _
               simp only [Act.put, zA, zB, zC, i64_w, i32_w]
               rfl
              refine pure_ (i := 24) (N := some 80) (v := ?_) (a' := ?_) #[T,T,T,T,T,T,T,T,T,T,T,T,T,T,T,T,T,T,T,T,T,T,T,T,T,F,F,F,F,F,F,F,F,F,F,F,F,F,F,F,F,F,F,F] rfl rfl (any_of HT_.out (by kernel_rfl)) (fun _ _ _ h => h) (Or.inl ⟨by rfl, ?_⟩) ?_ ?_
              rotate_left; intro w'; go_simp; with_reducible rfl; rotate_left; simp only [Act.put, zA, zB, zC, i64_w, i32_w]; rfl
              refine pure_ (i := 25) (N := some 81) (v := ?_) (a' := ?_) #[T,T,T,T,T,T,T,T,T,T,T,T,T,T,T,T,T,T,T,T,T,T,T,T,T,T,F,F,F,F,F,F,F,F,F,F,F,F,F,F,F,F,F,F] rfl rfl (any_of HT_.out (by kernel_rfl)) (fun _ _ _ h => h) (Or.inl ⟨by rfl, ?_⟩) ?_ ?_
              rotate_left; intro w'; go_simp; with_reducible rfl; rotate_left; simp only [Act.put, zA, zB, zC, i64_w, i32_w]; rfl
              refine pure_ (i := 26) (N := some 82) (v := ?_) (a' := ?_) #[T,T,T,T,T,T,T,T,T,T,T,T,T,T,T,T,T,T,T,T,T,T,T,T,T,T,T,F,F,F,F,F,F,F,F,F,F,F,F,F,F,F,F,F] rfl rfl (any_of HT_.out (by kernel_rfl)) (fun _ _ _ h => h) (Or.inl ⟨by rfl, ?_⟩) ?_ ?_
              rotate_left; intro w'; go_simp; with_reducible rfl; rotate_left; simp only [Act.put, zA, zB, zC, i64_w, i32_w]; rfl
              refine pure_ (i := 27) (N := some 83) (v := ?_) (a' := ?_) #[T,T,T,T,T,T,T,T,T,T,T,T,T,T,T,T,T,T,T,T,T,T,T,T,T,T,T,T,F,F,F,F,F,F,F,F,F,F,F,F,F,F,F,F] rfl rfl (any_of HT_.out (by kernel_rfl)) (fun _ _ _ h => h) (Or.inl ⟨by rfl, ?_⟩) ?_ ?_
              rotate_left; intro w'; go_simp; with_reducible rfl; rotate_left; simp only [Act.put, zA, zB, zC, i64_w, i32_w]; rfl
              refine pure_ (i := 28) (N := some 84) (v := undef) (a' := ?_) #[T,T,T,T,T,T,T,T,T,T,T,T,T,T,T,T,T,T,T,T,T,T,T,T,T,T,T,T,T,F,F,F,F,F,F,F,F,F,F,F,F,F,F,F] rfl rfl (any_of HT_.out (by kernel_rfl)) (fun _ _ _ h => h) (Or.inr ⟨by rfl, rfl⟩) ?_ ?_
              rotate_left; simp only [Act.put, zA, zB, zC, i64_w, i32_w]; rfl
              refine pure_ (i := 29) (N := some 85) (v := undef) (a' := ?_) #[T,T,T,T,T,T,T,T,T,T,T,T,T,T,T,T,T,T,T,T,T,T,T,T,T,T,T,T,T,T,F,F,F,F,F,F,F,F,F,F,F,F,F,F] rfl rfl (any_of HT_.out (by kernel_rfl)) (fun _ _ _ h => h) (Or.inr ⟨by rfl, rfl⟩) ?_ ?_
              rotate_left; simp only [Act.put, zA, zB, zC, i64_w, i32_w]; rfl
              refine pure_ (i := 30) (N := some 86) (v := undef) (a' := ?_) #[T,T,T,T,T,T,T,T,T,T,T,T,T,T,T,T,T,T,T,T,T,T,T,T,T,T,T,T,T,T,T,F,F,F,F,F,F,F,F,F,F,F,F,F] rfl rfl (any_of HT_.out (by kernel_rfl)) (fun _ _ _ h => h) (Or.inr ⟨by rfl, rfl⟩) ?_ ?_
              rotate_left; simp only [Act.put, zA, zB, zC, i64_w, i32_w]; rfl
              refine pure_ (i := 31) (N := some 87) (v := undef) (a' := ?_) #[T,T,T,T,T,T,T,T,T,T,T,T,T,T,T,T,T,T,T,T,T,T,T,T,T,T,T,T,T,T,T,T,F,F,F,F,F,F,F,F,F,F,F,F] rfl rfl (any_of HT_.out (by kernel_rfl)) (fun _ _ _ h => h) (Or.inr ⟨by rfl, rfl⟩) ?_ ?_
              rotate_left; simp only [Act.put, zA, zB, zC, i64_w, i32_w]; rfl
              refine pure_ (i := 32) (N := some 88) (v := undef) (a' := ?_) #[T,T,T,T,T,T,T,T,T,T,T,T,T,T,T,T,T,T,T,T,T,T,T,T,T,T,T,T,T,T,T,T,T,F,F,F,F,F,F,F,F,F,F,F] rfl rfl (any_of HT_.out (by kernel_rfl)) (fun _ _ _ h => h) (Or.inr ⟨by rfl, rfl⟩) ?_ ?_
              rotate_left; simp only [Act.put, zA, zB, zC, i64_w, i32_w]; rfl
              refine pure_ (i := 33) (N := some 89) (v := ?_) (a' := ?_) #[T,T,T,T,T,T,T,T,T,T,T,T,T,T,T,T,T,T,T,T,T,T,T,T,T,T,T,T,T,T,T,T,T,T,F,F,F,F,F,F,F,F,F,F] rfl rfl (any_of HT_.out (by kernel_rfl)) (fun _ _ _ h => h) (Or.inl ⟨by rfl, ?_⟩) ?_ ?_
              rotate_left; intro w'; go_simp; with_reducible rfl; rotate_left; simp only [Act.put, zA, zB, zC, i64_w, i32_w]; rfl
              refine pure_ (i := 34) (N := some 90) (v := ?_) (a' := ?_) #[T,T,T,T,T,T,T,T,T,T,T,T,T,T,T,T,T,T,T,T,T,T,T,T,T,T,T,T,T,T,T,T,T,T,T,F,F,F,F,F,F,F,F,F] rfl rfl (any_of HT_.out (by kernel_rfl)) (fun _ _ _ h => h) (Or.inl ⟨by rfl, ?_⟩) ?_ ?_
              rotate_left; intro w'; go_simp; with_reducible rfl; rotate_left; simp only [Act.put, zA, zB, zC, i64_w, i32_w]; rfl
              refine pure_ (i := 35) (N := some 91) (v := undef) (a' := ?_) #[T,T,T,T,T,T,T,T,T,T,T,T,T,T,T,T,T,T,T,T,T,T,T,T,T,T,T,T,T,T,T,T,T,T,T,T,F,F,F,F,F,F,F,F] rfl rfl (any_of HT_.out (by kernel_rfl)) (fun _ _ _ h => h) (Or.inr ⟨by rfl, rfl⟩) ?_ ?_
              rotate_left; simp only [Act.put, zA, zB, zC, i64_w, i32_w]; rfl
              refine pure_ (i := 36) (N := some 92) (v := undef) (a' := ?_) #[T,T,T,T,T,T,T,T,T,T,T,T,T,T,T,T,T,T,T,T,T,T,T,T,T,T,T,T,T,T,T,T,T,T,T,T,T,F,F,F,F,F,F,F] rfl rfl (any_of HT_.out (by kernel_rfl)) (fun _ _ _ h => h) (Or.inr ⟨by rfl, rfl⟩) ?_ ?_
              rotate_left; simp only [Act.put, zA, zB, zC, i64_w, i32_w]; rfl
              refine pure_ (i := 37) (N := some 93) (v := undef) (a' := ?_) #[T,T,T,T,T,T,T,T,T,T,T,T,T,T,T,T,T,T,T,T,T,T,T,T,T,T,T,T,T,T,T,T,T,T,T,T,T,T,F,F,F,F,F,F] rfl rfl (any_of HT_.out (by kernel_rfl)) (fun _ _ _ h => h) (Or.inr ⟨by rfl, rfl⟩) ?_ ?_
              rotate_left; simp only [Act.put, zA, zB, zC, i64_w, i32_w]; rfl
              refine pure_ (i := 38) (N := some 94) (v := undef) (a' := ?_) #[T,T,T,T,T,T,T,T,T,T,T,T,T,T,T,T,T,T,T,T,T,T,T,T,T,T,T,T,T,T,T,T,T,T,T,T,T,T,T,F,F,F,F,F] rfl rfl (any_of HT_.out (by kernel_rfl)) (fun _ _ _ h => h) (Or.inr ⟨by rfl, rfl⟩) ?_ ?_
              rotate_left; simp only [Act.put, zA, zB, zC, i64_w, i32_w]; rfl
              refine pure_ (i := 39) (N := some 95) (v := undef) (a' := ?_) #[T,T,T,T,T,T,T,T,T,T,T,T,T,T,T,T,T,T,T,T,T,T,T,T,T,T,T,T,T,T,T,T,T,T,T,T,T,T,T,T,F,F,F,F] rfl rfl (any_of HT_.out (by kernel_rfl)) (fun _ _ _ h => h) (Or.inr ⟨by rfl, rfl⟩) ?_ ?_
              rotate_left; simp only [Act.put, zA, zB, zC, i64_w, i32_w]; rfl
              refine pure_ (i := 40) (N := some 96) (v := undef) (a' := ?_) #[T,T,T,T,T,T,T,T,T,T,T,T,T,T,T,T,T,T,T,T,T,T,T,T,T,T,T,T,T,T,T,T,T,T,T,T,T,T,T,T,T,F,F,F] rfl rfl (any_of HT_.out (by kernel_rfl)) (fun _ _ _ h => h) (Or.inr ⟨by rfl, rfl⟩) ?_ ?_
              rotate_left; simp only [Act.put, zA, zB, zC, i64_w, i32_w]; rfl
              refine pure_ (i := 41) (N := some 97) (v := undef) (a' := ?_) #[T,T,T,T,T,T,T,T,T,T,T,T,T,T,T,T,T,T,T,T,T,T,T,T,T,T,T,T,T,T,T,T,T,T,T,T,T,T,T,T,T,T,F,F] rfl rfl (any_of HT_.out (by kernel_rfl)) (fun _ _ _ h => h) (Or.inr ⟨by rfl, rfl⟩) ?_ ?_
              rotate_left; simp only [Act.put, zA, zB, zC, i64_w, i32_w]; rfl
              refine pure_ (i := 42) (N := some 98) (v := ?_) (a' := ?_) #[T,T,T,T,T,T,T,T,T,T,T,T,T,T,T,T,T,T,T,T,T,T,T,T,T,T,T,T,T,T,T,T,T,T,T,T,T,T,T,T,T,T,T,F] rfl rfl (any_of HT_.out (by kernel_rfl)) (fun _ _ _ h => h) (Or.inl ⟨by rfl, ?_⟩) ?_ ?_
              rotate_left; intro w'; go_simp; with_reducible rfl; rotate_left; simp only [Act.put, zA, zB, zC, i64_w, i32_w]; rfl
              refine pure_ (i := 43) (N := some 2) (v := ?_) (a' := ?_) #[T,T,T,T,T,T,T,T,T,T,T,T,T,T,T,T,T,T,T,T,T,T,T,T,T,T,T,T,T,T,T,T,T,T,T,T,T,T,T,T,T,T,T,T] rfl rfl (any_of HT_.out (by kernel_rfl)) (fun _ _ _ h => h) (Or.inl ⟨by rfl, ?_⟩) ?_ ?_
              rotate_left; intro w'; go_simp; with_reducible rfl; rotate_left; simp only [Act.put, zA, zB, zC, i64_w, i32_w]; rfl
              refine done_ (done_of HT_.out (by kernel_rfl)) ?_
              try go_wp2
              go_ret
              exact ⟨by first | rfl | (simp [errW_none, errW_some] <;> rfl) | (simp [*, errW_none, errW_some] <;> rfl), by repeat (first | (with_reducible first | exact HB.out | apply b5 | apply b4 | apply b6 | refine b7 ?_ GE182.out | refine b7 ?_ GE192.out | refine b7 ?_ GE199.out) | exact HB.out)⟩
            ·rw [if_neg c42] at H
             have c42b0 : (t202 == (wrap64 (t203 - (Int.tmod (rd t183 0) 60)))) = false := beq_eq_false_iff_ne.mpr c42
             have c42b1 : (t202 != (wrap64 (t203 - (Int.tmod (rd t183 0) 60)))) = true := bne_iff_ne.mpr c42
             obtain rfl := Option.some.inj H
             have hnb92 := NB192_182.out
             have hnc92 := NB182_192.out
             have hcz93_0 : wc.cell? ⟨gb192, 0, none⟩ = some (.int .i64 t188) := (b8 BK192.out 0).trans rfl
             have hcz93_1 : wc.cell? ⟨gb192, 1, none⟩ = some (.int .i64 t189) := (b8 BK192.out 1).trans rfl
             have hcz93_2 : wc.cell? ⟨gb192, 2, none⟩ = some (.int .i64 t190) := (b8 BK192.out 2).trans rfl
             have hfz93_0 := blk_frozen BK192.out 0
             have hfz93_1 := blk_frozen BK192.out 1
             have hfz93_2 := blk_frozen BK192.out 2
             try go_wp2_with (first | ((with_reducible refine gate_callee (f := 21) rfl ?_); refine goesL_ (some 53) rfl rfl Try.func21 (by kernel_rfl) rfl #[.agg #[.int .i64 t188, .int .i64 t189, .int .i64 t190], .int .i64 (Int.tmod (rd t183 0) 60), .int .i64 (Int.tmod (rd t183 1) (wrap64 ((Int.tmod (rd t183 0) 60) + 1)))] rfl (by (try simp only [List.map_toArray, List.map_cons, List.map_nil]); first | done | rfl | (simp only [List.length_drop, List.length_take]; rfl)) ?_; (with_reducible refine (impl_Settle.calls t188 t189 t190 (Int.tmod (rd t183 0) 60) (Int.tmod (rd t183 1) (wrap64 ((Int.tmod (rd t183 0) 60) + 1))) t195 t196 t197 true _ A34.out).mono ?_); rintro e w94 ⟨rfl, hb⟩; refine ⟨_, rfl, ?_⟩; have n0_ := Am (blk_below (g := gb182) (o := .cells #[.int .i64 t179, .int .i64 t180, .int .i64 t181] 25 (0, 0)) (by (with_reducible repeat (first | refine b1 ?_ _ | refine b2 ?_ | refine b3 ?_ _)); exact BK182.out) hb); have n1_ := Am (blk_below (g := gb192) (o := .cells #[.int .i64 t188, .int .i64 t189, .int .i64 t190] 25 (0, 0)) (by (with_reducible repeat (first | refine b1 ?_ _ | refine b2 ?_ | refine b3 ?_ _)); exact BK192.out) hb); have n2_ := Am (below_step (by repeat (first | (with_reducible first | exact HB.out | apply b5 | apply b4 | apply b6 | refine b7 ?_ GE182.out | refine b7 ?_ GE192.out) | exact HB.out)) hb); clear BK182; clear BK192; clear HB; have BK182 := n0_; have BK192 := n1_; have HB := n2_; clear n0_ n1_ n2_; (try clear hb); (try clear hb2); (try clear hk); (try clear hi)) | ((with_reducible refine gate_dst (N := 9) rfl ?_); refine box_event ?hg (N := 9) ?hd (cs := #[.int .i64 0, .int .i64 0, .int .i64 0]) (t := 25) ?hr ?_; (case hd => rfl); (case hg => rfl); (case hr => first | (go_simp; done) | (go_simp; rfl)); intro gb199 hg w95 hbox hb; have n0_ := Am (blk_below (g := gb182) (o := .cells #[.int .i64 t179, .int .i64 t180, .int .i64 t181] 25 (0, 0)) (by (with_reducible repeat (first | refine b1 ?_ _ | refine b2 ?_ | refine b3 ?_ _)); exact BK182.out) hb); have n1_ := Am (blk_below (g := gb192) (o := .cells #[.int .i64 t188, .int .i64 t189, .int .i64 t190] 25 (0, 0)) (by (with_reducible repeat (first | refine b1 ?_ _ | refine b2 ?_ | refine b3 ?_ _)); exact BK192.out) hb); have n2_ := Am (below_step (by repeat (first | (with_reducible first | exact HB.out | apply b5 | apply b4 | apply b6 | refine b7 ?_ GE182.out | refine b7 ?_ GE192.out) | exact HB.out)) hb); have n3_ := Am (hbox); have n4_ := Am ((by rw [hg]; exact (below_size (by repeat (first | (with_reducible first | exact HB.out | apply b5 | apply b4 | apply b6 | refine b7 ?_ GE182.out | refine b7 ?_ GE192.out) | exact HB.out))) : w.heap.size ≤ gb199)); have n5_ := Am ((by rw [hg]; exact (below_size (by repeat (first | (with_reducible first | exact HB.out | apply b5 | apply b4 | apply b6 | refine b7 ?_ GE182.out | refine b7 ?_ GE192.out) | exact HB.out))) : w.heap.size ≤ gb199)); have n6_ := Am ((by rw [hg]; exact Nat.ne_of_lt (blk_lt (g := gb182) (o := .cells #[.int .i64 t179, .int .i64 t180, .int .i64 t181] 25 (0, 0)) (by (with_reducible repeat (first | refine b1 ?_ _ | refine b2 ?_ | refine b3 ?_ _)); exact BK182.out)) : gb182 ≠ gb199)); have n7_ := Am ((by rw [hg]; exact Nat.ne_of_gt (blk_lt (g := gb182) (o := .cells #[.int .i64 t179, .int .i64 t180, .int .i64 t181] 25 (0, 0)) (by (with_reducible repeat (first | refine b1 ?_ _ | refine b2 ?_ | refine b3 ?_ _)); exact BK182.out)) : gb199 ≠ gb182)); have n8_ := Am ((by rw [hg]; exact Nat.ne_of_lt (blk_lt (g := gb192) (o := .cells #[.int .i64 t188, .int .i64 t189, .int .i64 t190] 25 (0, 0)) (by (with_reducible repeat (first | refine b1 ?_ _ | refine b2 ?_ | refine b3 ?_ _)); exact BK192.out)) : gb192 ≠ gb199)); have n9_ := Am ((by rw [hg]; exact Nat.ne_of_gt (blk_lt (g := gb192) (o := .cells #[.int .i64 t188, .int .i64 t189, .int .i64 t190] 25 (0, 0)) (by (with_reducible repeat (first | refine b1 ?_ _ | refine b2 ?_ | refine b3 ?_ _)); exact BK192.out)) : gb199 ≠ gb192)); clear BK182; clear BK192; clear HB; have BK182 := n0_; have BK192 := n1_; have HB := n2_; have BK199 := n3_; have GW199 := n4_; have GE199 := n5_; have NB182_199 := n6_; have NB199_182 := n7_; have NB192_199 := n8_; have NB199_192 := n9_; clear n0_ n1_ n2_ n3_ n4_ n5_ n6_ n7_ n8_ n9_; clear hb hbox hg; have hnb96 := NB199_182.out; have hnc96 := NB182_199.out; have hnb97 := NB199_192.out; have hnc97 := NB192_199.out; have hcz98_0 : w95.cell? ⟨gb199, 0, none⟩ = some (.int .i64 0) := (b8 BK199.out 0).trans rfl; have hcz98_1 : w95.cell? ⟨gb199, 1, none⟩ = some (.int .i64 0) := (b8 BK199.out 1).trans rfl; have hcz98_2 : w95.cell? ⟨gb199, 2, none⟩ = some (.int .i64 0) := (b8 BK199.out 2).trans rfl; have hfz98_0 := blk_frozen BK199.out 0; have hfz98_1 := blk_frozen BK199.out 1; have hfz98_2 := blk_frozen BK199.out 2))
             have n0_ : Aside0 ((((w95.setCell ⟨gb199, 0, none⟩ (.int .i64 t195)).setCell ⟨gb199, 1, none⟩ (.int .i64 t196)).setCell ⟨gb199, 2, none⟩ (.int .i64 t197)).heap[gb182]? = some (.cells #[.int .i64 t179, .int .i64 t180, .int .i64 t181] 25 (0, 0))) := ⟨by (with_reducible repeat (first | refine b1 ?_ _ | refine b2 ?_ | refine b3 ?_ _)); refine blk_far ?_ NB182_199.out _; (with_reducible repeat (first | refine b1 ?_ _ | refine b2 ?_ | refine b3 ?_ _)); refine blk_far ?_ NB182_199.out _; (with_reducible repeat (first | refine b1 ?_ _ | refine b2 ?_ | refine b3 ?_ _)); refine blk_far ?_ NB182_199.out _; (with_reducible repeat (first | refine b1 ?_ _ | refine b2 ?_ | refine b3 ?_ _)); exact BK182.out⟩
             have n1_ : Aside0 ((((w95.setCell ⟨gb199, 0, none⟩ (.int .i64 t195)).setCell ⟨gb199, 1, none⟩ (.int .i64 t196)).setCell ⟨gb199, 2, none⟩ (.int .i64 t197)).heap[gb192]? = some (.cells #[.int .i64 t188, .int .i64 t189, .int .i64 t190] 25 (0, 0))) := ⟨by (with_reducible repeat (first | refine b1 ?_ _ | refine b2 ?_ | refine b3 ?_ _)); refine blk_far ?_ NB192_199.out _; (with_reducible repeat (first | refine b1 ?_ _ | refine b2 ?_ | refine b3 ?_ _)); refine blk_far ?_ NB192_199.out _; (with_reducible repeat (first | refine b1 ?_ _ | refine b2 ?_ | refine b3 ?_ _)); refine blk_far ?_ NB192_199.out _; (with_reducible repeat (first | refine b1 ?_ _ | refine b2 ?_ | refine b3 ?_ _)); exact BK192.out⟩
             have n2_ : Aside0 ((((w95.setCell ⟨gb199, 0, none⟩ (.int .i64 t195)).setCell ⟨gb199, 1, none⟩ (.int .i64 t196)).setCell ⟨gb199, 2, none⟩ (.int .i64 t197)).heap[gb199]? = some (.cells #[.int .i64 t195, .int .i64 t196, .int .i64 t197] 25 (0, 0))) := ⟨by (with_reducible repeat (first | refine b1 ?_ _ | refine b2 ?_ | refine b3 ?_ _)); refine blk_put (cs := #[.int .i64 t195, .int .i64 t196, .int .i64 0]) ?_ 2 _ rfl; (with_reducible repeat (first | refine b1 ?_ _ | refine b2 ?_ | refine b3 ?_ _)); refine blk_put (cs := #[.int .i64 t195, .int .i64 0, .int .i64 0]) ?_ 1 _ rfl; (with_reducible repeat (first | refine b1 ?_ _ | refine b2 ?_ | refine b3 ?_ _)); refine blk_put (cs := #[.int .i64 0, .int .i64 0, .int .i64 0]) ?_ 0 _ rfl; (with_reducible repeat (first | refine b1 ?_ _ | refine b2 ?_ | refine b3 ?_ _)); exact BK199.out⟩
             have n3_ : Aside0 (Below w.heap.size w (((w95.setCell ⟨gb199, 0, none⟩ (.int .i64 t195)).setCell ⟨gb199, 1, none⟩ (.int .i64 t196)).setCell ⟨gb199, 2, none⟩ (.int .i64 t197))) := ⟨by repeat (first | (with_reducible first | exact HB.out | apply b5 | apply b4 | apply b6 | refine b7 ?_ GE182.out | refine b7 ?_ GE192.out | refine b7 ?_ GE199.out) | exact HB.out)⟩
             (try clear BK182)
             (try clear BK192)
             (try clear BK199)
             (try clear HB)
             generalize (((w95.setCell ⟨gb199, 0, none⟩ (.int .i64 t195)).setCell ⟨gb199, 1, none⟩ (.int .i64 t196)).setCell ⟨gb199, 2, none⟩ (.int .i64 t197)) = w99 at n0_ n1_ n2_ n3_ ⊢
             have BK182 := n0_
             have BK192 := n1_
             have BK199 := n2_
             have HB := n3_
             clear n0_ n1_ n2_ n3_
             have n0_ := Am (b2 BK182.out)
             have n1_ := Am (b2 BK192.out)
             have n2_ := Am (b2 BK199.out)
             have n3_ := Am (b6 HB.out)
             clear BK182
             clear BK192
             clear BK199
             clear HB
             have BK182 := n0_
             have BK192 := n1_
             have BK199 := n2_
             have HB := n3_
             clear n0_ n1_ n2_ n3_
             refine start_ (n := 44) (S := fun w' => w'.cell? ⟨gb192, 0, none⟩ = some (.int .i64 t188) ∧ w'.cell? ⟨gb192, 1, none⟩ = some (.int .i64 t189) ∧ w'.cell? ⟨gb192, 2, none⟩ = some (.int .i64 t190) ∧ w'.cell? ⟨gb199, 0, none⟩ = some (.int .i64 t195) ∧ w'.cell? ⟨gb199, 1, none⟩ = some (.int .i64 t196) ∧ w'.cell? ⟨gb199, 2, none⟩ = some (.int .i64 t197) ∧ w'.cell? ⟨gb182, 0, none⟩ = some (.int .i64 t179) ∧ w'.cell? ⟨gb182, 1, none⟩ = some (.int .i64 t180) ∧ w'.cell? ⟨gb182, 2, none⟩ = some (.int .i64 t181)) (ds := []) #[F,F,F,F,F,F,F,F,F,F,F,F,F,F,F,F,F,F,F,F,F,F,F,F,F,F,F,F,F,F,F,F,F,F,F,F,F,F,F,F,F,F,F,F] (by kernel_rfl) rfl rfl ⟨(b8 BK192.out 0).trans rfl, (b8 BK192.out 1).trans rfl, (b8 BK192.out 2).trans rfl, (b8 BK199.out 0).trans rfl, (b8 BK199.out 1).trans rfl, (b8 BK199.out 2).trans rfl, (b8 BK182.out 0).trans rfl, (b8 BK182.out 1).trans rfl, (b8 BK182.out 2).trans rfl⟩ (fun hHeld => ?_); refine with_tabW laws_FnAccounts.tab13 laws_FnAccounts.bits13 (fun HT_ HW_ => ?_)
             generalize w99.drew = w100 at BK182 BK192 BK199 HB hHeld ⊢
             refine pure_ (i := 0) (N := some 56) (v := ?_) (a' := ?_) #[T,F,F,F,F,F,F,F,F,F,F,F,F,F,F,F,F,F,F,F,F,F,F,F,F,F,F,F,F,F,F,F,F,F,F,F,F,F,F,F,F,F,F,F] rfl rfl (any_of HT_.out (by kernel_rfl)) (fun _ _ _ h => h) (Or.inl ⟨by rfl, ?_⟩) ?_ ?_
             rotate_left; intro w'; go_simp; with_reducible rfl; rotate_left; simp only [Act.put, zA, zB, zC, i64_w, i32_w]; rfl
             refine pure_ (i := 1) (N := some 57) (v := ?_) (a' := ?_) #[T,T,F,F,F,F,F,F,F,F,F,F,F,F,F,F,F,F,F,F,F,F,F,F,F,F,F,F,F,F,F,F,F,F,F,F,F,F,F,F,F,F,F,F] rfl rfl (any_of HT_.out (by kernel_rfl)) (fun _ _ _ h => h) (Or.inl ⟨by rfl, ?_⟩) ?_ ?_
             rotate_left; intro w'; go_simp; with_reducible rfl; rotate_left; simp only [Act.put, zA, zB, zC, i64_w, i32_w]; rfl
             refine take_ (i := 2) (N := some 58) (v := ?_) (a' := ?_) #[T,T,T,F,F,F,F,F,F,F,F,F,F,F,F,F,F,F,F,F,F,F,F,F,F,F,F,F,F,F,F,F,F,F,F,F,F,F,F,F,F,F,F,F] rfl rfl (take_ofW HT_.out HW_.out (by kernel_rfl)) (fun _ _ _ h => h) (Or.inl ⟨by rfl, ?_⟩) hHeld ?_ ?_
             rotate_left; rintro w' ⟨s0, s1, s2, s3, s4, s5, s6, s7, s8⟩; go_simp; with_reducible rfl; rotate_left; simp only [Act.put, zA, zB, zC, i64_w, i32_w]; rfl
             refine one_ (i := 3) (N := some 59) #[T,T,T,T,F,F,F,F,F,F,F,F,F,F,F,F,F,F,F,F,F,F,F,F,F,F,F,F,F,F,F,F,F,F,F,F,F,F,F,F,F,F,F,F] rfl rfl (one_of HT_.out (by kernel_rfl)) (by decide) (fun K hK => ?_)
             refine goes_ Try.func19 (by kernel_rfl) rfl #[.agg #[.int .i64 t188, .int .i64 t189, .int .i64 t190]] (by rfl) rfl rfl (by (try simp only [List.map_toArray, List.map_cons, List.map_nil]); first | done | rfl | (simp only [List.length_drop, List.length_take]; rfl)) ?_
             with_reducible refine (impl_AccountOk.calls t188 t189 t190 true _ A36.out).mono ?_
             rintro e w101 ⟨rfl, hb⟩
             refine ⟨_, rfl, ?_⟩
             have n0_ := Am (blk_below (g := gb182) (o := .cells #[.int .i64 t179, .int .i64 t180, .int .i64 t181] 25 (0, 0)) (by (with_reducible repeat (first | refine b1 ?_ _ | refine b2 ?_ | refine b3 ?_ _)); exact BK182.out) hb)
             have n1_ := Am (blk_below (g := gb192) (o := .cells #[.int .i64 t188, .int .i64 t189, .int .i64 t190] 25 (0, 0)) (by (with_reducible repeat (first | refine b1 ?_ _ | refine b2 ?_ | refine b3 ?_ _)); exact BK192.out) hb)
             have n2_ := Am (blk_below (g := gb199) (o := .cells #[.int .i64 t195, .int .i64 t196, .int .i64 t197] 25 (0, 0)) (by (with_reducible repeat (first | refine b1 ?_ _ | refine b2 ?_ | refine b3 ?_ _)); exact BK199.out) hb)
             have n3_ := Am (below_step (by repeat (first | (with_reducible first | exact HB.out | apply b5 | apply b4 | apply b6 | refine b7 ?_ GE182.out | refine b7 ?_ GE192.out | refine b7 ?_ GE199.out) | exact HB.out)) hb)
             clear BK182
             clear BK192
             clear BK199
             clear HB
             have BK182 := n0_
             have BK192 := n1_
             have BK199 := n2_
             have HB := n3_
             clear n0_ n1_ n2_ n3_
             (try clear hb)
             (try clear hb2)
             (try clear hk)
             (try clear hi)
             refine hK.out _ _ ⟨(b8 BK192.out 0).trans rfl, (b8 BK192.out 1).trans rfl, (b8 BK192.out 2).trans rfl, (b8 BK199.out 0).trans rfl, (b8 BK199.out 1).trans rfl, (b8 BK199.out 2).trans rfl, (b8 BK182.out 0).trans rfl, (b8 BK182.out 1).trans rfl, (b8 BK182.out 2).trans rfl⟩ (fun hHeld => ?_)
             clear hK K
             refine norm_ (a' := ?_) ?_ ?_
             rotate_left
             ·show Act.put _ (some 59) _ = _
              simp only [Act.put, zA, zB, zC, i64_w, i32_w]
              rfl
             refine pure_ (i := 4) (N := some 60) (v := ?_) (a' := ?_) #[T,T,T,T,T,F,F,F,F,F,F,F,F,F,F,F,F,F,F,F,F,F,F,F,F,F,F,F,F,F,F,F,F,F,F,F,F,F,F,F,F,F,F,F] rfl rfl (any_of HT_.out (by kernel_rfl)) (fun _ _ _ h => h) (Or.inl ⟨by rfl, ?_⟩) ?_ ?_
             rotate_left; intro w'; go_simp; with_reducible rfl; rotate_left; simp only [Act.put, zA, zB, zC, i64_w, i32_w]; rfl
             refine pure_ (i := 5) (N := some 61) (v := ?_) (a' := ?_) #[T,T,T,T,T,T,F,F,F,F,F,F,F,F,F,F,F,F,F,F,F,F,F,F,F,F,F,F,F,F,F,F,F,F,F,F,F,F,F,F,F,F,F,F] rfl rfl (any_of HT_.out (by kernel_rfl)) (fun _ _ _ h => h) (Or.inl ⟨by rfl, ?_⟩) ?_ ?_
             rotate_left; intro w'; go_simp; with_reducible rfl; rotate_left; simp only [Act.put, zA, zB, zC, i64_w, i32_w]; rfl
             refine take_ (i := 6) (N := some 62) (v := ?_) (a' := ?_) #[T,T,T,T,T,T,T,F,F,F,F,F,F,F,F,F,F,F,F,F,F,F,F,F,F,F,F,F,F,F,F,F,F,F,F,F,F,F,F,F,F,F,F,F] rfl rfl (take_ofW HT_.out HW_.out (by kernel_rfl)) (fun _ _ _ h => h) (Or.inl ⟨by rfl, ?_⟩) hHeld ?_ ?_
             rotate_left; rintro w' ⟨s0, s1, s2, s3, s4, s5, s6, s7, s8⟩; go_simp; with_reducible rfl; rotate_left; simp only [Act.put, zA, zB, zC, i64_w, i32_w]; rfl
             refine one_ (i := 7) (N := some 63) #[T,T,T,T,T,T,T,T,F,F,F,F,F,F,F,F,F,F,F,F,F,F,F,F,F,F,F,F,F,F,F,F,F,F,F,F,F,F,F,F,F,F,F,F] rfl rfl (one_of HT_.out (by kernel_rfl)) (by decide) (fun K hK => ?_)
             refine goes_ Try.func19 (by kernel_rfl) rfl #[.agg #[.int .i64 t195, .int .i64 t196, .int .i64 t197]] (by rfl) rfl rfl (by (try simp only [List.map_toArray, List.map_cons, List.map_nil]); first | done | rfl | (simp only [List.length_drop, List.length_take]; rfl)) ?_
             with_reducible refine (impl_AccountOk.calls t195 t196 t197 true _ A38.out).mono ?_
             rintro e w102 ⟨rfl, hb⟩
             refine ⟨_, rfl, ?_⟩
             have n0_ := Am (blk_below (g := gb182) (o := .cells #[.int .i64 t179, .int .i64 t180, .int .i64 t181] 25 (0, 0)) (by (with_reducible repeat (first | refine b1 ?_ _ | refine b2 ?_ | refine b3 ?_ _)); exact BK182.out) hb)
             have n1_ := Am (blk_below (g := gb192) (o := .cells #[.int .i64 t188, .int .i64 t189, .int .i64 t190] 25 (0, 0)) (by (with_reducible repeat (first | refine b1 ?_ _ | refine b2 ?_ | refine b3 ?_ _)); exact BK192.out) hb)
             have n2_ := Am (blk_below (g := gb199) (o := .cells #[.int .i64 t195, .int .i64 t196, .int .i64 t197] 25 (0, 0)) (by (with_reducible repeat (first | refine b1 ?_ _ | refine b2 ?_ | refine b3 ?_ _)); exact BK199.out) hb)
             have n3_ := Am (below_step (by repeat (first | (with_reducible first | exact HB.out | apply b5 | apply b4 | apply b6 | refine b7 ?_ GE182.out | refine b7 ?_ GE192.out | refine b7 ?_ GE199.out) | exact HB.out)) hb)
             clear BK182
             clear BK192
             clear BK199
             clear HB
             have BK182 := n0_
             have BK192 := n1_
             have BK199 := n2_
             have HB := n3_
             clear n0_ n1_ n2_ n3_
             (try clear hb)
             (try clear hb2)
             (try clear hk)
             (try clear hi)
             refine hK.out _ _ ⟨(b8 BK192.out 0).trans rfl, (b8 BK192.out 1).trans rfl, (b8 BK192.out 2).trans rfl, (b8 BK199.out 0).trans rfl, (b8 BK199.out 1).trans rfl, (b8 BK199.out 2).trans rfl, (b8 BK182.out 0).trans rfl, (b8 BK182.out 1).trans rfl, (b8 BK182.out 2).trans rfl⟩ (fun hHeld => ?_)
             clear hK K
             refine norm_ (a' := ?_) ?_ ?_
             rotate_left
             ·show Act.put _ (some 63) _ = _
              simp only [Act.put, zA, zB, zC, i64_w, i32_w]
              rfl
             refine pure_ (i := 8) (N := some 64) (v := ?_) (a' := ?_) #[T,T,T,T,T,T,T,T,T,F,F,F,F,F,F,F,F,F,F,F,F,F,F,F,F,F,F,F,F,F,F,F,F,F,F,F,F,F,F,F,F,F,F,F] rfl rfl (any_of HT_.out (by kernel_rfl)) (fun _ _ _ h => h) (Or.inl ⟨by rfl, ?_⟩) ?_ ?_
             rotate_left; intro w'; go_simp; with_reducible rfl; rotate_left; simp only [Act.put, zA, zB, zC, i64_w, i32_w]; rfl
             refine pure_ (i := 9) (N := some 65) (v := ?_) (a' := ?_) #[T,T,T,T,T,T,T,T,T,T,F,F,F,F,F,F,F,F,F,F,F,F,F,F,F,F,F,F,F,F,F,F,F,F,F,F,F,F,F,F,F,F,F,F] rfl rfl (any_of HT_.out (by kernel_rfl)) (fun _ _ _ h => h) (Or.inl ⟨by rfl, ?_⟩) ?_ ?_
             rotate_left; intro w'; go_simp; with_reducible rfl; rotate_left; simp only [Act.put, zA, zB, zC, i64_w, i32_w]; rfl
             refine pure_ (i := 14) (N := some 70) (v := ?_) (a' := ?_) #[T,T,T,T,T,T,T,T,T,T,F,F,F,F,T,F,F,F,F,F,F,F,F,F,F,F,F,F,F,F,F,F,F,F,F,F,F,F,F,F,F,F,F,F] rfl rfl (any_of HT_.out (by kernel_rfl)) (fun _ _ _ h => h) (Or.inl ⟨by rfl, ?_⟩) ?_ ?_
             rotate_left; intro w'; go_simp; with_reducible rfl; rotate_left; simp only [Act.put, zA, zB, zC, i64_w, i32_w]; rfl
             refine take_ (i := 10) (N := some 66) (v := ?_) (a' := ?_) #[T,T,T,T,T,T,T,T,T,T,T,F,F,F,T,F,F,F,F,F,F,F,F,F,F,F,F,F,F,F,F,F,F,F,F,F,F,F,F,F,F,F,F,F] rfl rfl (take_ofW HT_.out HW_.out (by kernel_rfl)) (fun _ _ _ h => h) (Or.inl ⟨by rfl, ?_⟩) hHeld ?_ ?_
             rotate_left; rintro w' ⟨s0, s1, s2, s3, s4, s5, s6, s7, s8⟩; go_simp; with_reducible rfl; rotate_left; simp only [Act.put, zA, zB, zC, i64_w, i32_w]; rfl
             refine take_ (i := 12) (N := some 68) (v := ?_) (a' := ?_) #[T,T,T,T,T,T,T,T,T,T,T,F,T,F,T,F,F,F,F,F,F,F,F,F,F,F,F,F,F,F,F,F,F,F,F,F,F,F,F,F,F,F,F,F] rfl rfl (take_ofW HT_.out HW_.out (by kernel_rfl)) (fun _ _ _ h => h) (Or.inl ⟨by rfl, ?_⟩) hHeld ?_ ?_
             rotate_left; rintro w' ⟨s0, s1, s2, s3, s4, s5, s6, s7, s8⟩; go_simp; with_reducible rfl; rotate_left; simp only [Act.put, zA, zB, zC, i64_w, i32_w]; rfl
             refine one_ (i := 11) (N := some 67) #[T,T,T,T,T,T,T,T,T,T,T,T,T,F,T,F,F,F,F,F,F,F,F,F,F,F,F,F,F,F,F,F,F,F,F,F,F,F,F,F,F,F,F,F] rfl rfl (one_of HT_.out (by kernel_rfl)) (by decide) (fun K hK => ?_)
             refine goes_ Try.func20 (by kernel_rfl) rfl #[.agg #[.int .i64 t188, .int .i64 t189, .int .i64 t190]] (by rfl) rfl rfl (by (try simp only [List.map_toArray, List.map_cons, List.map_nil]); first | done | rfl | (simp only [List.length_drop, List.length_take]; rfl)) ?_
             with_reducible refine (impl_FreeSheets.calls t188 t189 t190 t202 _ A40.out).mono ?_
             rintro e w103 ⟨rfl, hb⟩
             refine ⟨_, rfl, ?_⟩
             have n0_ := Am (blk_below (g := gb182) (o := .cells #[.int .i64 t179, .int .i64 t180, .int .i64 t181] 25 (0, 0)) (by (with_reducible repeat (first | refine b1 ?_ _ | refine b2 ?_ | refine b3 ?_ _)); exact BK182.out) hb)
             have n1_ := Am (blk_below (g := gb192) (o := .cells #[.int .i64 t188, .int .i64 t189, .int .i64 t190] 25 (0, 0)) (by (with_reducible repeat (first | refine b1 ?_ _ | refine b2 ?_ | refine b3 ?_ _)); exact BK192.out) hb)
             have n2_ := Am (blk_below (g := gb199) (o := .cells #[.int .i64 t195, .int .i64 t196, .int .i64 t197] 25 (0, 0)) (by (with_reducible repeat (first | refine b1 ?_ _ | refine b2 ?_ | refine b3 ?_ _)); exact BK199.out) hb)
             have n3_ := Am (below_step (by repeat (first | (with_reducible first | exact HB.out | apply b5 | apply b4 | apply b6 | refine b7 ?_ GE182.out | refine b7 ?_ GE192.out | refine b7 ?_ GE199.out) | exact HB.out)) hb)
             clear BK182
             clear BK192
             clear BK199
             clear HB
             have BK182 := n0_
             have BK192 := n1_
             have BK199 := n2_
             have HB := n3_
             clear n0_ n1_ n2_ n3_
             (try clear hb)
             (try clear hb2)
             (try clear hk)
             (try clear hi)
             refine hK.out _ _ ⟨(b8 BK192.out 0).trans rfl, (b8 BK192.out 1).trans rfl, (b8 BK192.out 2).trans rfl, (b8 BK199.out 0).trans rfl, (b8 BK199.out 1).trans rfl, (b8 BK199.out 2).trans rfl, (b8 BK182.out 0).trans rfl, (b8 BK182.out 1).trans rfl, (b8 BK182.out 2).trans rfl⟩ (fun hHeld => ?_)
             clear hK K
             refine norm_ (a' := ?_) ?_ ?_
             rotate_left
             ·show Act.put _ (some 67) _ = _
              simp only [Act.put, zA, zB, zC, i64_w, i32_w]
              rfl
             refine one_ (i := 13) (N := some 69) #[T,T,T,T,T,T,T,T,T,T,T,T,T,T,T,F,F,F,F,F,F,F,F,F,F,F,F,F,F,F,F,F,F,F,F,F,F,F,F,F,F,F,F,F] rfl rfl (one_of HT_.out (by kernel_rfl)) (by decide) (fun K hK => ?_)
             refine goes_ Try.func20 (by kernel_rfl) rfl #[.agg #[.int .i64 t179, .int .i64 t180, .int .i64 t181]] (by rfl) rfl rfl (by (try simp only [List.map_toArray, List.map_cons, List.map_nil]); first | done | rfl | (simp only [List.length_drop, List.length_take]; rfl)) ?_
             with_reducible refine (impl_FreeSheets.calls t179 t180 t181 t203 _ A41.out).mono ?_
             rintro e w104 ⟨rfl, hb⟩
             refine ⟨_, rfl, ?_⟩
             have n0_ := Am (blk_below (g := gb182) (o := .cells #[.int .i64 t179, .int .i64 t180, .int .i64 t181] 25 (0, 0)) (by (with_reducible repeat (first | refine b1 ?_ _ | refine b2 ?_ | refine b3 ?_ _)); exact BK182.out) hb)
             have n1_ := Am (blk_below (g := gb192) (o := .cells #[.int .i64 t188, .int .i64 t189, .int .i64 t190] 25 (0, 0)) (by (with_reducible repeat (first | refine b1 ?_ _ | refine b2 ?_ | refine b3 ?_ _)); exact BK192.out) hb)
             have n2_ := Am (blk_below (g := gb199) (o := .cells #[.int .i64 t195, .int .i64 t196, .int .i64 t197] 25 (0, 0)) (by (with_reducible repeat (first | refine b1 ?_ _ | refine b2 ?_ | refine b3 ?_ _)); exact BK199.out) hb)
             have n3_ := Am (below_step (by repeat (first | (with_reducible first | exact HB.out | apply b5 | apply b4 | apply b6 | refine b7 ?_ GE182.out | refine b7 ?_ GE192.out | refine b7 ?_ GE199.out) | exact HB.out)) hb)
             clear BK182
             clear BK192
             clear BK199
             clear HB
             have BK182 := n0_
             have BK192 := n1_
             have BK199 := n2_
             have HB := n3_
             clear n0_ n1_ n2_ n3_
             (try clear hb)
             (try clear hb2)
             (try clear hk)
             (try clear hi)
             refine hK.out _ _ ⟨(b8 BK192.out 0).trans rfl, (b8 BK192.out 1).trans rfl, (b8 BK192.out 2).trans rfl, (b8 BK199.out 0).trans rfl, (b8 BK199.out 1).trans rfl, (b8 BK199.out 2).trans rfl, (b8 BK182.out 0).trans rfl, (b8 BK182.out 1).trans rfl, (b8 BK182.out 2).trans rfl⟩ (fun hHeld => ?_)
             clear hK K
             refine norm_ (a' := ?_) ?_ ?_
             rotate_left
             ·show Act.put _ (some 69) _ = _
              simp only [Act.put, zA, zB, zC, i64_w, i32_w]
              rfl
             refine pure_ (i := 15) (N := some 71) (v := ?_) (a' := ?_) #[T,T,T,T,T,T,T,T,T,T,T,T,T,T,T,T,F,F,F,F,F,F,F,F,F,F,F,F,F,F,F,F,F,F,F,F,F,F,F,F,F,F,F,F] rfl rfl (any_of HT_.out (by kernel_rfl)) (fun _ _ _ h => h) (Or.inl ⟨by rfl, ?_⟩) ?_ ?_
             rotate_left; intro w'; go_simp; with_reducible rfl; rotate_left; simp only [Act.put, zA, zB, zC, i64_w, i32_w]; rfl
             refine pure_ (i := 16) (N := some 72) (v := ?_) (a' := ?_) #[T,T,T,T,T,T,T,T,T,T,T,T,T,T,T,T,T,F,F,F,F,F,F,F,F,F,F,F,F,F,F,F,F,F,F,F,F,F,F,F,F,F,F,F] rfl rfl (any_of HT_.out (by kernel_rfl)) (fun _ _ _ h => h) (Or.inl ⟨by rfl, ?_⟩) ?_ ?_
             rotate_left; intro w'; go_simp; with_reducible rfl; rotate_left; simp only [Act.put, zA, zB, zC, i64_w, i32_w]; rfl
             refine pure_ (i := 17) (N := some 73) (v := ?_) (a' := ?_) #[T,T,T,T,T,T,T,T,T,T,T,T,T,T,T,T,T,T,F,F,F,F,F,F,F,F,F,F,F,F,F,F,F,F,F,F,F,F,F,F,F,F,F,F] rfl rfl (any_of HT_.out (by kernel_rfl)) (fun _ _ _ h => h) (Or.inl ⟨by rfl, ?_⟩) ?_ ?_
             rotate_left; intro w'; go_simp; with_reducible rfl; rotate_left; simp only [Act.put, zA, zB, zC, i64_w, i32_w]; rfl
             refine pure_ (i := 18) (N := some 74) (v := ?_) (a' := ?_) #[T,T,T,T,T,T,T,T,T,T,T,T,T,T,T,T,T,T,T,F,F,F,F,F,F,F,F,F,F,F,F,F,F,F,F,F,F,F,F,F,F,F,F,F] rfl rfl (any_of HT_.out (by kernel_rfl)) (fun _ _ _ h => h) (Or.inl ⟨by rfl, ?_⟩) ?_ ?_
             rotate_left; intro w'; go_simp; with_reducible rfl; rotate_left; simp only [Act.put, zA, zB, zC, i64_w, i32_w]; rfl
             refine pure_ (i := 19) (N := some 75) (v := undef) (a' := ?_) #[T,T,T,T,T,T,T,T,T,T,T,T,T,T,T,T,T,T,T,T,F,F,F,F,F,F,F,F,F,F,F,F,F,F,F,F,F,F,F,F,F,F,F,F] rfl rfl (any_of HT_.out (by kernel_rfl)) (fun _ _ _ h => h) (Or.inr ⟨by rfl, rfl⟩) ?_ ?_
             rotate_left; simp only [Act.put, zA, zB, zC, i64_w, i32_w]; rfl
             refine pure_ (i := 20) (N := some 76) (v := undef) (a' := ?_) #[T,T,T,T,T,T,T,T,T,T,T,T,T,T,T,T,T,T,T,T,T,F,F,F,F,F,F,F,F,F,F,F,F,F,F,F,F,F,F,F,F,F,F,F] rfl rfl (any_of HT_.out (by kernel_rfl)) (fun _ _ _ h => h) (Or.inr ⟨by rfl, rfl⟩) ?_ ?_
             rotate_left; simp only [Act.put, zA, zB, zC, i64_w, i32_w]; rfl
             refine pure_ (i := 21) (N := some 77) (v := undef) (a' := ?_) #[T,T,T,T,T,T,T,T,T,T,T,T,T,T,T,T,T,T,T,T,T,T,F,F,F,F,F,F,F,F,F,F,F,F,F,F,F,F,F,F,F,F,F,F] rfl rfl (any_of HT_.out (by kernel_rfl)) (fun _ _ _ h => h) (Or.inr ⟨by rfl, rfl⟩) ?_ ?_
             rotate_left; simp only [Act.put, zA, zB, zC, i64_w, i32_w]; rfl
             refine pure_ (i := 22) (N := some 78) (v := undef) (a' := ?_) #[T,T,T,T,T,T,T,T,T,T,T,T,T,T,T,T,T,T,T,T,T,T,T,F,F,F,F,F,F,F,F,F,F,F,F,F,F,F,F,F,F,F,F,F] rfl rfl (any_of HT_.out (by kernel_rfl)) (fun _ _ _ h => h) (Or.inr ⟨by rfl, rfl⟩) ?_ ?_
             rotate_left; simp only [Act.put, zA, zB, zC, i64_w, i32_w]; rfl
             refine pure_ (i := 23) (N := some 79) (v := undef) (a' := ?_) #[T,T,T,T,T,T,T,T,T,T,T,T,T,T,T,T,T,T,T,T,T,T,T,T,F,F,F,F,F,F,F,F,F,F,F,F,F,F,F,F,F,F,F,F] rfl rfl (any_of HT_.out (by kernel_rfl)) (fun _ _ _ h => h) (Or.inr ⟨by rfl, rfl⟩) ?_ ?_
             rotate_left; simp only [Act.put, zA, zB, zC, i64_w, i32_w]; rfl
             refine pure_ (i := 24) (N := some 80) (v := undef) (a' := ?_) #[T,T,T,T,T,T,T,T,T,T,T,T,T,T,T,T,T,T,T,T,T,T,T,T,T,F,F,F,F,F,F,F,F,F,F,F,F,F,F,F,F,F,F,F] rfl rfl (any_of HT_.out (by kernel_rfl)) (fun _ _ _ h => h) (Or.inr ⟨by rfl, rfl⟩) ?_ ?_
             rotate_left; simp only [Act.put, zA, zB, zC, i64_w, i32_w]; rfl
             refine pure_ (i := 25) (N := some 81) (v := undef) (a' := ?_) #[T,T,T,T,T,T,T,T,T,T,T,T,T,T,T,T,T,T,T,T,T,T,T,T,T,T,F,F,F,F,F,F,F,F,F,F,F,F,F,F,F,F,F,F] rfl rfl (any_of HT_.out (by kernel_rfl)) (fun _ _ _ h => h) (Or.inr ⟨by rfl, rfl⟩) ?_ ?_
             rotate_left; simp only [Act.put, zA, zB, zC, i64_w, i32_w]; rfl
             refine pure_ (i := 26) (N := some 82) (v := ?_) (a' := ?_) #[T,T,T,T,T,T,T,T,T,T,T,T,T,T,T,T,T,T,T,T,T,T,T,T,T,T,T,F,F,F,F,F,F,F,F,F,F,F,F,F,F,F,F,F] rfl rfl (any_of HT_.out (by kernel_rfl)) (fun _ _ _ h => h) (Or.inl ⟨by rfl, ?_⟩) ?_ ?_
             rotate_left; intro w'; go_simp; with_reducible rfl; rotate_left; simp only [Act.put, zA, zB, zC, i64_w, i32_w]; rfl
             refine pure_ (i := 27) (N := some 83) (v := ?_) (a' := ?_) #[T,T,T,T,T,T,T,T,T,T,T,T,T,T,T,T,T,T,T,T,T,T,T,T,T,T,T,T,F,F,F,F,F,F,F,F,F,F,F,F,F,F,F,F] rfl rfl (any_of HT_.out (by kernel_rfl)) (fun _ _ _ h => h) (Or.inl ⟨by rfl, ?_⟩) ?_ ?_
             rotate_left; intro w'; go_simp; with_reducible rfl; rotate_left; simp only [Act.put, zA, zB, zC, i64_w, i32_w]; rfl
             refine pure_ (i := 28) (N := some 84) (v := undef) (a' := ?_) #[T,T,T,T,T,T,T,T,T,T,T,T,T,T,T,T,T,T,T,T,T,T,T,T,T,T,T,T,T,F,F,F,F,F,F,F,F,F,F,F,F,F,F,F] rfl rfl (any_of HT_.out (by kernel_rfl)) (fun _ _ _ h => h) (Or.inr ⟨by rfl, rfl⟩) ?_ ?_
             rotate_left; simp only [Act.put, zA, zB, zC, i64_w, i32_w]; rfl
             refine pure_ (i := 29) (N := some 85) (v := undef) (a' := ?_) #[T,T,T,T,T,T,T,T,T,T,T,T,T,T,T,T,T,T,T,T,T,T,T,T,T,T,T,T,T,T,F,F,F,F,F,F,F,F,F,F,F,F,F,F] rfl rfl (any_of HT_.out (by kernel_rfl)) (fun _ _ _ h => h) (Or.inr ⟨by rfl, rfl⟩) ?_ ?_
             rotate_left; simp only [Act.put, zA, zB, zC, i64_w, i32_w]; rfl
             refine pure_ (i := 30) (N := some 86) (v := undef) (a' := ?_) #[T,T,T,T,T,T,T,T,T,T,T,T,T,T,T,T,T,T,T,T,T,T,T,T,T,T,T,T,T,T,T,F,F,F,F,F,F,F,F,F,F,F,F,F] rfl rfl (any_of HT_.out (by kernel_rfl)) (fun _ _ _ h => h) (Or.inr ⟨by rfl, rfl⟩) ?_ ?_
             rotate_left; simp only [Act.put, zA, zB, zC, i64_w, i32_w]; rfl
             refine pure_ (i := 31) (N := some 87) (v := undef) (a' := ?_) #[T,T,T,T,T,T,T,T,T,T,T,T,T,T,T,T,T,T,T,T,T,T,T,T,T,T,T,T,T,T,T,T,F,F,F,F,F,F,F,F,F,F,F,F] rfl rfl (any_of HT_.out (by kernel_rfl)) (fun _ _ _ h => h) (Or.inr ⟨by rfl, rfl⟩) ?_ ?_
             rotate_left; simp only [Act.put, zA, zB, zC, i64_w, i32_w]; rfl
             refine pure_ (i := 32) (N := some 88) (v := undef) (a' := ?_) #[T,T,T,T,T,T,T,T,T,T,T,T,T,T,T,T,T,T,T,T,T,T,T,T,T,T,T,T,T,T,T,T,T,F,F,F,F,F,F,F,F,F,F,F] rfl rfl (any_of HT_.out (by kernel_rfl)) (fun _ _ _ h => h) (Or.inr ⟨by rfl, rfl⟩) ?_ ?_
             rotate_left; simp only [Act.put, zA, zB, zC, i64_w, i32_w]; rfl
             refine pure_ (i := 33) (N := some 89) (v := ?_) (a' := ?_) #[T,T,T,T,T,T,T,T,T,T,T,T,T,T,T,T,T,T,T,T,T,T,T,T,T,T,T,T,T,T,T,T,T,T,F,F,F,F,F,F,F,F,F,F] rfl rfl (any_of HT_.out (by kernel_rfl)) (fun _ _ _ h => h) (Or.inl ⟨by rfl, ?_⟩) ?_ ?_
             rotate_left; intro w'; go_simp; with_reducible rfl; rotate_left; simp only [Act.put, zA, zB, zC, i64_w, i32_w]; rfl
             refine pure_ (i := 34) (N := some 90) (v := ?_) (a' := ?_) #[T,T,T,T,T,T,T,T,T,T,T,T,T,T,T,T,T,T,T,T,T,T,T,T,T,T,T,T,T,T,T,T,T,T,T,F,F,F,F,F,F,F,F,F] rfl rfl (any_of HT_.out (by kernel_rfl)) (fun _ _ _ h => h) (Or.inl ⟨by rfl, ?_⟩) ?_ ?_
             rotate_left; intro w'; go_simp; with_reducible rfl; rotate_left; simp only [Act.put, zA, zB, zC, i64_w, i32_w]; rfl
             refine pure_ (i := 35) (N := some 91) (v := undef) (a' := ?_) #[T,T,T,T,T,T,T,T,T,T,T,T,T,T,T,T,T,T,T,T,T,T,T,T,T,T,T,T,T,T,T,T,T,T,T,T,F,F,F,F,F,F,F,F] rfl rfl (any_of HT_.out (by kernel_rfl)) (fun _ _ _ h => h) (Or.inr ⟨by rfl, rfl⟩) ?_ ?_
             rotate_left; simp only [Act.put, zA, zB, zC, i64_w, i32_w]; rfl
             refine pure_ (i := 36) (N := some 92) (v := undef) (a' := ?_) #[T,T,T,T,T,T,T,T,T,T,T,T,T,T,T,T,T,T,T,T,T,T,T,T,T,T,T,T,T,T,T,T,T,T,T,T,T,F,F,F,F,F,F,F] rfl rfl (any_of HT_.out (by kernel_rfl)) (fun _ _ _ h => h) (Or.inr ⟨by rfl, rfl⟩) ?_ ?_
             rotate_left; simp only [Act.put, zA, zB, zC, i64_w, i32_w]; rfl
             refine pure_ (i := 37) (N := some 93) (v := undef) (a' := ?_) #[T,T,T,T,T,T,T,T,T,T,T,T,T,T,T,T,T,T,T,T,T,T,T,T,T,T,T,T,T,T,T,T,T,T,T,T,T,T,F,F,F,F,F,F] rfl rfl (any_of HT_.out (by kernel_rfl)) (fun _ _ _ h => h) (Or.inr ⟨by rfl, rfl⟩) ?_ ?_
             rotate_left; simp only [Act.put, zA, zB, zC, i64_w, i32_w]; rfl
             refine pure_ (i := 38) (N := some 94) (v := undef) (a' := ?_) #[T,T,T,T,T,T,T,T,T,T,T,T,T,T,T,T,T,T,T,T,T,T,T,T,T,T,T,T,T,T,T,T,T,T,T,T,T,T,T,F,F,F,F,F] rfl rfl (any_of HT_.out (by kernel_rfl)) (fun _ _ _ h => h) (Or.inr ⟨by rfl, rfl⟩) ?_ ?_
             rotate_left; simp only [Act.put, zA, zB, zC, i64_w, i32_w]; rfl
             refine pure_ (i := 39) (N := some 95) (v := undef) (a' := ?_) #[T,T,T,T,T,T,T,T,T,T,T,T,T,T,T,T,T,T,T,T,T,T,T,T,T,T,T,T,T,T,T,T,T,T,T,T,T,T,T,T,F,F,F,F] rfl rfl (any_of HT_.out (by kernel_rfl)) (fun _ _ _ h => h) (Or.inr ⟨by rfl, rfl⟩) ?_ ?_
             rotate_left; simp only [Act.put, zA, zB, zC, i64_w, i32_w]; rfl
             refine pure_ (i := 40) (N := some 96) (v := undef) (a' := ?_) #[T,T,T,T,T,T,T,T,T,T,T,T,T,T,T,T,T,T,T,T,T,T,T,T,T,T,T,T,T,T,T,T,T,T,T,T,T,T,T,T,T,F,F,F] rfl rfl (any_of HT_.out (by kernel_rfl)) (fun _ _ _ h => h) (Or.inr ⟨by rfl, rfl⟩) ?_ ?_
             rotate_left; simp only [Act.put, zA, zB, zC, i64_w, i32_w]; rfl
             refine pure_ (i := 41) (N := some 97) (v := undef) (a' := ?_) #[T,T,T,T,T,T,T,T,T,T,T,T,T,T,T,T,T,T,T,T,T,T,T,T,T,T,T,T,T,T,T,T,T,T,T,T,T,T,T,T,T,T,F,F] rfl rfl (any_of HT_.out (by kernel_rfl)) (fun _ _ _ h => h) (Or.inr ⟨by rfl, rfl⟩) ?_ ?_
             rotate_left; simp only [Act.put, zA, zB, zC, i64_w, i32_w]; rfl
             refine pure_ (i := 42) (N := some 98) (v := ?_) (a' := ?_) #[T,T,T,T,T,T,T,T,T,T,T,T,T,T,T,T,T,T,T,T,T,T,T,T,T,T,T,T,T,T,T,T,T,T,T,T,T,T,T,T,T,T,T,F] rfl rfl (any_of HT_.out (by kernel_rfl)) (fun _ _ _ h => h) (Or.inl ⟨by rfl, ?_⟩) ?_ ?_
             rotate_left; intro w'; go_simp; with_reducible rfl; rotate_left; simp only [Act.put, zA, zB, zC, i64_w, i32_w]; rfl
             refine pure_ (i := 43) (N := some 2) (v := ?_) (a' := ?_) #[T,T,T,T,T,T,T,T,T,T,T,T,T,T,T,T,T,T,T,T,T,T,T,T,T,T,T,T,T,T,T,T,T,T,T,T,T,T,T,T,T,T,T,T] rfl rfl (any_of HT_.out (by kernel_rfl)) (fun _ _ _ h => h) (Or.inl ⟨by rfl, ?_⟩) ?_ ?_
             rotate_left; intro w'; go_simp; with_reducible rfl; rotate_left; simp only [Act.put, zA, zB, zC, i64_w, i32_w]; rfl
             refine done_ (done_of HT_.out (by kernel_rfl)) ?_
             try go_wp2
             go_ret
             exact ⟨by first | rfl | (simp [errW_none, errW_some] <;> rfl) | (simp [*, errW_none, errW_some] <;> rfl), by repeat (first | (with_reducible first | exact HB.out | apply b5 | apply b4 | apply b6 | refine b7 ?_ GE182.out | refine b7 ?_ GE192.out | refine b7 ?_ GE199.out) | exact HB.out)⟩
           ·replace c39 := Bool.eq_false_iff.mpr c39
            subst c39
            have H1 : (some false) = some r := by rw [if_neg (show ¬ (false = true) by decide)] at H; exact H
            clear H
            have H := H1
            clear H1
            obtain rfl := Option.some.inj H
            have hnb105 := NB192_182.out
            have hnc105 := NB182_192.out
            have hcz106_0 : wc.cell? ⟨gb192, 0, none⟩ = some (.int .i64 t188) := (b8 BK192.out 0).trans rfl
            have hcz106_1 : wc.cell? ⟨gb192, 1, none⟩ = some (.int .i64 t189) := (b8 BK192.out 1).trans rfl
            have hcz106_2 : wc.cell? ⟨gb192, 2, none⟩ = some (.int .i64 t190) := (b8 BK192.out 2).trans rfl
            have hfz106_0 := blk_frozen BK192.out 0
            have hfz106_1 := blk_frozen BK192.out 1
            have hfz106_2 := blk_frozen BK192.out 2
            try go_wp2_with (first | ((with_reducible refine gate_callee (f := 21) rfl ?_); refine goesL_ (some 53) rfl rfl Try.func21 (by kernel_rfl) rfl #[.agg #[.int .i64 t188, .int .i64 t189, .int .i64 t190], .int .i64 (Int.tmod (rd t183 0) 60), .int .i64 (Int.tmod (rd t183 1) (wrap64 ((Int.tmod (rd t183 0) 60) + 1)))] rfl (by (try simp only [List.map_toArray, List.map_cons, List.map_nil]); first | done | rfl | (simp only [List.length_drop, List.length_take]; rfl)) ?_; (with_reducible refine (impl_Settle.calls t188 t189 t190 (Int.tmod (rd t183 0) 60) (Int.tmod (rd t183 1) (wrap64 ((Int.tmod (rd t183 0) 60) + 1))) t195 t196 t197 true _ A34.out).mono ?_); rintro e w107 ⟨rfl, hb⟩; refine ⟨_, rfl, ?_⟩; have n0_ := Am (blk_below (g := gb182) (o := .cells #[.int .i64 t179, .int .i64 t180, .int .i64 t181] 25 (0, 0)) (by (with_reducible repeat (first | refine b1 ?_ _ | refine b2 ?_ | refine b3 ?_ _)); exact BK182.out) hb); have n1_ := Am (blk_below (g := gb192) (o := .cells #[.int .i64 t188, .int .i64 t189, .int .i64 t190] 25 (0, 0)) (by (with_reducible repeat (first | refine b1 ?_ _ | refine b2 ?_ | refine b3 ?_ _)); exact BK192.out) hb); have n2_ := Am (below_step (by repeat (first | (with_reducible first | exact HB.out | apply b5 | apply b4 | apply b6 | refine b7 ?_ GE182.out | refine b7 ?_ GE192.out) | exact HB.out)) hb); clear BK182; clear BK192; clear HB; have BK182 := n0_; have BK192 := n1_; have HB := n2_; clear n0_ n1_ n2_; (try clear hb); (try clear hb2); (try clear hk); (try clear hi)) | ((with_reducible refine gate_dst (N := 9) rfl ?_); refine box_event ?hg (N := 9) ?hd (cs := #[.int .i64 0, .int .i64 0, .int .i64 0]) (t := 25) ?hr ?_; (case hd => rfl); (case hg => rfl); (case hr => first | (go_simp; done) | (go_simp; rfl)); intro gb199 hg w108 hbox hb; have n0_ := Am (blk_below (g := gb182) (o := .cells #[.int .i64 t179, .int .i64 t180, .int .i64 t181] 25 (0, 0)) (by (with_reducible repeat (first | refine b1 ?_ _ | refine b2 ?_ | refine b3 ?_ _)); exact BK182.out) hb); have n1_ := Am (blk_below (g := gb192) (o := .cells #[.int .i64 t188, .int .i64 t189, .int .i64 t190] 25 (0, 0)) (by (with_reducible repeat (first | refine b1 ?_ _ | refine b2 ?_ | refine b3 ?_ _)); exact BK192.out) hb); have n2_ := Am (below_step (by repeat (first | (with_reducible first | exact HB.out | apply b5 | apply b4 | apply b6 | refine b7 ?_ GE182.out | refine b7 ?_ GE192.out) | exact HB.out)) hb); have n3_ := Am (hbox); have n4_ := Am ((by rw [hg]; exact (below_size (by repeat (first | (with_reducible first | exact HB.out | apply b5 | apply b4 | apply b6 | refine b7 ?_ GE182.out | refine b7 ?_ GE192.out) | exact HB.out))) : w.heap.size ≤ gb199)); have n5_ := Am ((by rw [hg]; exact (below_size (by repeat (first | (with_reducible first | exact HB.out | apply b5 | apply b4 | apply b6 | refine b7 ?_ GE182.out | refine b7 ?_ GE192.out) | exact HB.out))) : w.heap.size ≤ gb199)); have n6_ := Am ((by rw [hg]; exact Nat.ne_of_lt (blk_lt (g := gb182) (o := .cells #[.int .i64 t179, .int .i64 t180, .int .i64 t181] 25 (0, 0)) (by (with_reducible repeat (first | refine b1 ?_ _ | refine b2 ?_ | refine b3 ?_ _)); exact BK182.out)) : gb182 ≠ gb199)); have n7_ := Am ((by rw [hg]; exact Nat.ne_of_gt (blk_lt (g := gb182) (o := .cells #[.int .i64 t179, .int .i64 t180, .int .i64 t181] 25 (0, 0)) (by (with_reducible repeat (first | refine b1 ?_ _ | refine b2 ?_ | refine b3 ?_ _)); exact BK182.out)) : gb199 ≠ gb182)); have n8_ := Am ((by rw [hg]; exact Nat.ne_of_lt (blk_lt (g := gb192) (o := .cells #[.int .i64 t188, .int .i64 t189, .int .i64 t190] 25 (0, 0)) (by (with_reducible repeat (first | refine b1 ?_ _ | refine b2 ?_ | refine b3 ?_ _)); exact BK192.out)) : gb192 ≠ gb199)); have n9_ := Am ((by rw [hg]; exact Nat.ne_of_gt (blk_lt (g := gb192) (o := .cells #[.int .i64 t188, .int .i64 t189, .int .i64 t190] 25 (0, 0)) (by (with_reducible repeat (first | refine b1 ?_ _ | refine b2 ?_ | refine b3 ?_ _)); exact BK192.out)) : gb199 ≠ gb192)); clear BK182; clear BK192; clear HB; have BK182 := n0_; have BK192 := n1_; have HB := n2_; have BK199 := n3_; have GW199 := n4_; have GE199 := n5_; have NB182_199 := n6_; have NB199_182 := n7_; have NB192_199 := n8_; have NB199_192 := n9_; clear n0_ n1_ n2_ n3_ n4_ n5_ n6_ n7_ n8_ n9_; clear hb hbox hg; have hnb109 := NB199_182.out; have hnc109 := NB182_199.out; have hnb110 := NB199_192.out; have hnc110 := NB192_199.out; have hcz111_0 : w108.cell? ⟨gb199, 0, none⟩ = some (.int .i64 0) := (b8 BK199.out 0).trans rfl; have hcz111_1 : w108.cell? ⟨gb199, 1, none⟩ = some (.int .i64 0) := (b8 BK199.out 1).trans rfl; have hcz111_2 : w108.cell? ⟨gb199, 2, none⟩ = some (.int .i64 0) := (b8 BK199.out 2).trans rfl; have hfz111_0 := blk_frozen BK199.out 0; have hfz111_1 := blk_frozen BK199.out 1; have hfz111_2 := blk_frozen BK199.out 2))
            have n0_ : Aside0 ((((w108.setCell ⟨gb199, 0, none⟩ (.int .i64 t195)).setCell ⟨gb199, 1, none⟩ (.int .i64 t196)).setCell ⟨gb199, 2, none⟩ (.int .i64 t197)).heap[gb182]? = some (.cells #[.int .i64 t179, .int .i64 t180, .int .i64 t181] 25 (0, 0))) := ⟨by (with_reducible repeat (first | refine b1 ?_ _ | refine b2 ?_ | refine b3 ?_ _)); refine blk_far ?_ NB182_199.out _; (with_reducible repeat (first | refine b1 ?_ _ | refine b2 ?_ | refine b3 ?_ _)); refine blk_far ?_ NB182_199.out _; (with_reducible repeat (first | refine b1 ?_ _ | refine b2 ?_ | refine b3 ?_ _)); refine blk_far ?_ NB182_199.out _; (with_reducible repeat (first | refine b1 ?_ _ | refine b2 ?_ | refine b3 ?_ _)); exact BK182.out⟩
            have n1_ : Aside0 ((((w108.setCell ⟨gb199, 0, none⟩ (.int .i64 t195)).setCell ⟨gb199, 1, none⟩ (.int .i64 t196)).setCell ⟨gb199, 2, none⟩ (.int .i64 t197)).heap[gb192]? = some (.cells #[.int .i64 t188, .int .i64 t189, .int .i64 t190] 25 (0, 0))) := ⟨by (with_reducible repeat (first | refine b1 ?_ _ | refine b2 ?_ | refine b3 ?_ _)); refine blk_far ?_ NB192_199.out _; (with_reducible repeat (first | refine b1 ?_ _ | refine b2 ?_ | refine b3 ?_ _)); refine blk_far ?_ NB192_199.out _; (with_reducible repeat (first | refine b1 ?_ _ | refine b2 ?_ | refine b3 ?_ _)); refine blk_far ?_ NB192_199.out _; (with_reducible repeat (first | refine b1 ?_ _ | refine b2 ?_ | refine b3 ?_ _)); exact BK192.out⟩
            have n2_ : Aside0 ((((w108.setCell ⟨gb199, 0, none⟩ (.int .i64 t195)).setCell ⟨gb199, 1, none⟩ (.int .i64 t196)).setCell ⟨gb199, 2, none⟩ (.int .i64 t197)).heap[gb199]? = some (.cells #[.int .i64 t195, .int .i64 t196, .int .i64 t197] 25 (0, 0))) := ⟨by (with_reducible repeat (first | refine b1 ?_ _ | refine b2 ?_ | refine b3 ?_ _)); refine blk_put (cs := #[.int .i64 t195, .int .i64 t196, .int .i64 0]) ?_ 2 _ rfl; (with_reducible repeat (first | refine b1 ?_ _ | refine b2 ?_ | refine b3 ?_ _)); refine blk_put (cs := #[.int .i64 t195, .int .i64 0, .int .i64 0]) ?_ 1 _ rfl; (with_reducible repeat (first | refine b1 ?_ _ | refine b2 ?_ | refine b3 ?_ _)); refine blk_put (cs := #[.int .i64 0, .int .i64 0, .int .i64 0]) ?_ 0 _ rfl; (with_reducible repeat (first | refine b1 ?_ _ | refine b2 ?_ | refine b3 ?_ _)); exact BK199.out⟩
            have n3_ : Aside0 (Below w.heap.size w (((w108.setCell ⟨gb199, 0, none⟩ (.int .i64 t195)).setCell ⟨gb199, 1, none⟩ (.int .i64 t196)).setCell ⟨gb199, 2, none⟩ (.int .i64 t197))) := ⟨by repeat (first | (with_reducible first | exact HB.out | apply b5 | apply b4 | apply b6 | refine b7 ?_ GE182.out | refine b7 ?_ GE192.out | refine b7 ?_ GE199.out) | exact HB.out)⟩
            (try clear BK182)
            (try clear BK192)
            (try clear BK199)
            (try clear HB)
            generalize (((w108.setCell ⟨gb199, 0, none⟩ (.int .i64 t195)).setCell ⟨gb199, 1, none⟩ (.int .i64 t196)).setCell ⟨gb199, 2, none⟩ (.int .i64 t197)) = w112 at n0_ n1_ n2_ n3_ ⊢
            have BK182 := n0_
            have BK192 := n1_
            have BK199 := n2_
            have HB := n3_
            clear n0_ n1_ n2_ n3_
            have n0_ := Am (b2 BK182.out)
            have n1_ := Am (b2 BK192.out)
            have n2_ := Am (b2 BK199.out)
            have n3_ := Am (b6 HB.out)
            clear BK182
            clear BK192
            clear BK199
            clear HB
            have BK182 := n0_
            have BK192 := n1_
            have BK199 := n2_
            have HB := n3_
            clear n0_ n1_ n2_ n3_
            refine start_ (n := 44) (S := fun w' => w'.cell? ⟨gb192, 0, none⟩ = some (.int .i64 t188) ∧ w'.cell? ⟨gb192, 1, none⟩ = some (.int .i64 t189) ∧ w'.cell? ⟨gb192, 2, none⟩ = some (.int .i64 t190) ∧ w'.cell? ⟨gb199, 0, none⟩ = some (.int .i64 t195) ∧ w'.cell? ⟨gb199, 1, none⟩ = some (.int .i64 t196) ∧ w'.cell? ⟨gb199, 2, none⟩ = some (.int .i64 t197)) (ds := []) #[F,F,F,F,F,F,F,F,F,F,F,F,F,F,F,F,F,F,F,F,F,F,F,F,F,F,F,F,F,F,F,F,F,F,F,F,F,F,F,F,F,F,F,F] (by kernel_rfl) rfl rfl ⟨(b8 BK192.out 0).trans rfl, (b8 BK192.out 1).trans rfl, (b8 BK192.out 2).trans rfl, (b8 BK199.out 0).trans rfl, (b8 BK199.out 1).trans rfl, (b8 BK199.out 2).trans rfl⟩ (fun hHeld => ?_); refine with_tabW laws_FnAccounts.tab13 laws_FnAccounts.bits13 (fun HT_ HW_ => ?_)
            generalize w112.drew = w113 at BK182 BK192 BK199 HB hHeld ⊢
            refine pure_ (i := 0) (N := some 56) (v := ?_) (a' := ?_) #[T,F,F,F,F,F,F,F,F,F,F,F,F,F,F,F,F,F,F,F,F,F,F,F,F,F,F,F,F,F,F,F,F,F,F,F,F,F,F,F,F,F,F,F] rfl rfl (any_of HT_.out (by kernel_rfl)) (fun _ _ _ h => h) (Or.inl ⟨by rfl, ?_⟩) ?_ ?_
            rotate_left; intro w'; go_simp; with_reducible rfl; rotate_left; simp only [Act.put, zA, zB, zC, i64_w, i32_w]; rfl
            refine pure_ (i := 1) (N := some 57) (v := ?_) (a' := ?_) #[T,T,F,F,F,F,F,F,F,F,F,F,F,F,F,F,F,F,F,F,F,F,F,F,F,F,F,F,F,F,F,F,F,F,F,F,F,F,F,F,F,F,F,F] rfl rfl (any_of HT_.out (by kernel_rfl)) (fun _ _ _ h => h) (Or.inl ⟨by rfl, ?_⟩) ?_ ?_
            rotate_left; intro w'; go_simp; with_reducible rfl; rotate_left; simp only [Act.put, zA, zB, zC, i64_w, i32_w]; rfl
            refine take_ (i := 2) (N := some 58) (v := ?_) (a' := ?_) #[T,T,T,F,F,F,F,F,F,F,F,F,F,F,F,F,F,F,F,F,F,F,F,F,F,F,F,F,F,F,F,F,F,F,F,F,F,F,F,F,F,F,F,F] rfl rfl (take_ofW HT_.out HW_.out (by kernel_rfl)) (fun _ _ _ h => h) (Or.inl ⟨by rfl, ?_⟩) hHeld ?_ ?_
            rotate_left; rintro w' ⟨s0, s1, s2, s3, s4, s5⟩; go_simp; with_reducible rfl; rotate_left; simp only [Act.put, zA, zB, zC, i64_w, i32_w]; rfl
            refine one_ (i := 3) (N := some 59) #[T,T,T,T,F,F,F,F,F,F,F,F,F,F,F,F,F,F,F,F,F,F,F,F,F,F,F,F,F,F,F,F,F,F,F,F,F,F,F,F,F,F,F,F] rfl rfl (one_of HT_.out (by kernel_rfl)) (by decide) (fun K hK => ?_)
            refine goes_ Try.func19 (by kernel_rfl) rfl #[.agg #[.int .i64 t188, .int .i64 t189, .int .i64 t190]] (by rfl) rfl rfl (by (try simp only [List.map_toArray, List.map_cons, List.map_nil]); first | done | rfl | (simp only [List.length_drop, List.length_take]; rfl)) ?_
            with_reducible refine (impl_AccountOk.calls t188 t189 t190 true _ A36.out).mono ?_
            rintro e w114 ⟨rfl, hb⟩
            refine ⟨_, rfl, ?_⟩
            have n0_ := Am (blk_below (g := gb182) (o := .cells #[.int .i64 t179, .int .i64 t180, .int .i64 t181] 25 (0, 0)) (by (with_reducible repeat (first | refine b1 ?_ _ | refine b2 ?_ | refine b3 ?_ _)); exact BK182.out) hb)
            have n1_ := Am (blk_below (g := gb192) (o := .cells #[.int .i64 t188, .int .i64 t189, .int .i64 t190] 25 (0, 0)) (by (with_reducible repeat (first | refine b1 ?_ _ | refine b2 ?_ | refine b3 ?_ _)); exact BK192.out) hb)
            have n2_ := Am (blk_below (g := gb199) (o := .cells #[.int .i64 t195, .int .i64 t196, .int .i64 t197] 25 (0, 0)) (by (with_reducible repeat (first | refine b1 ?_ _ | refine b2 ?_ | refine b3 ?_ _)); exact BK199.out) hb)
            have n3_ := Am (below_step (by repeat (first | (with_reducible first | exact HB.out | apply b5 | apply b4 | apply b6 | refine b7 ?_ GE182.out | refine b7 ?_ GE192.out | refine b7 ?_ GE199.out) | exact HB.out)) hb)
            clear BK182
            clear BK192
            clear BK199
            clear HB
            have BK182 := n0_
            have BK192 := n1_
            have BK199 := n2_
            have HB := n3_
            clear n0_ n1_ n2_ n3_
            (try clear hb)
            (try clear hb2)
            (try clear hk)
            (try clear hi)
            refine hK.out _ _ ⟨(b8 BK192.out 0).trans rfl, (b8 BK192.out 1).trans rfl, (b8 BK192.out 2).trans rfl, (b8 BK199.out 0).trans rfl, (b8 BK199.out 1).trans rfl, (b8 BK199.out 2).trans rfl⟩ (fun hHeld => ?_)
            clear hK K
            refine norm_ (a' := ?_) ?_ ?_
            rotate_left
            ·show Act.put _ (some 59) _ = _
             simp only [Act.put, zA, zB, zC, i64_w, i32_w]
             rfl
            refine pure_ (i := 4) (N := some 60) (v := ?_) (a' := ?_) #[T,T,T,T,T,F,F,F,F,F,F,F,F,F,F,F,F,F,F,F,F,F,F,F,F,F,F,F,F,F,F,F,F,F,F,F,F,F,F,F,F,F,F,F] rfl rfl (any_of HT_.out (by kernel_rfl)) (fun _ _ _ h => h) (Or.inl ⟨by rfl, ?_⟩) ?_ ?_
            rotate_left; intro w'; go_simp; with_reducible rfl; rotate_left; simp only [Act.put, zA, zB, zC, i64_w, i32_w]; rfl
            refine pure_ (i := 5) (N := some 61) (v := ?_) (a' := ?_) #[T,T,T,T,T,T,F,F,F,F,F,F,F,F,F,F,F,F,F,F,F,F,F,F,F,F,F,F,F,F,F,F,F,F,F,F,F,F,F,F,F,F,F,F] rfl rfl (any_of HT_.out (by kernel_rfl)) (fun _ _ _ h => h) (Or.inl ⟨by rfl, ?_⟩) ?_ ?_
            rotate_left; intro w'; go_simp; with_reducible rfl; rotate_left; simp only [Act.put, zA, zB, zC, i64_w, i32_w]; rfl
            refine take_ (i := 6) (N := some 62) (v := ?_) (a' := ?_) #[T,T,T,T,T,T,T,F,F,F,F,F,F,F,F,F,F,F,F,F,F,F,F,F,F,F,F,F,F,F,F,F,F,F,F,F,F,F,F,F,F,F,F,F] rfl rfl (take_ofW HT_.out HW_.out (by kernel_rfl)) (fun _ _ _ h => h) (Or.inl ⟨by rfl, ?_⟩) hHeld ?_ ?_
            rotate_left; rintro w' ⟨s0, s1, s2, s3, s4, s5⟩; go_simp; with_reducible rfl; rotate_left; simp only [Act.put, zA, zB, zC, i64_w, i32_w]; rfl
            refine one_ (i := 7) (N := some 63) #[T,T,T,T,T,T,T,T,F,F,F,F,F,F,F,F,F,F,F,F,F,F,F,F,F,F,F,F,F,F,F,F,F,F,F,F,F,F,F,F,F,F,F,F] rfl rfl (one_of HT_.out (by kernel_rfl)) (by decide) (fun K hK => ?_)
            refine goes_ Try.func19 (by kernel_rfl) rfl #[.agg #[.int .i64 t195, .int .i64 t196, .int .i64 t197]] (by rfl) rfl rfl (by (try simp only [List.map_toArray, List.map_cons, List.map_nil]); first | done | rfl | (simp only [List.length_drop, List.length_take]; rfl)) ?_
            with_reducible refine (impl_AccountOk.calls t195 t196 t197 false _ A38.out).mono ?_
            rintro e w115 ⟨rfl, hb⟩
            refine ⟨_, rfl, ?_⟩
            have n0_ := Am (blk_below (g := gb182) (o := .cells #[.int .i64 t179, .int .i64 t180, .int .i64 t181] 25 (0, 0)) (by (with_reducible repeat (first | refine b1 ?_ _ | refine b2 ?_ | refine b3 ?_ _)); exact BK182.out) hb)
            have n1_ := Am (blk_below (g := gb192) (o := .cells #[.int .i64 t188, .int .i64 t189, .int .i64 t190] 25 (0, 0)) (by (with_reducible repeat (first | refine b1 ?_ _ | refine b2 ?_ | refine b3 ?_ _)); exact BK192.out) hb)
            have n2_ := Am (blk_below (g := gb199) (o := .cells #[.int .i64 t195, .int .i64 t196, .int .i64 t197] 25 (0, 0)) (by (with_reducible repeat (first | refine b1 ?_ _ | refine b2 ?_ | refine b3 ?_ _)); exact BK199.out) hb)
            have n3_ := Am (below_step (by repeat (first | (with_reducible first | exact HB.out | apply b5 | apply b4 | apply b6 | refine b7 ?_ GE182.out | refine b7 ?_ GE192.out | refine b7 ?_ GE199.out) | exact HB.out)) hb)
            clear BK182
            clear BK192
            clear BK199
            clear HB
            have BK182 := n0_
            have BK192 := n1_
            have BK199 := n2_
            have HB := n3_
            clear n0_ n1_ n2_ n3_
            (try clear hb)
            (try clear hb2)
            (try clear hk)
            (try clear hi)
            refine hK.out _ _ ⟨(b8 BK192.out 0).trans rfl, (b8 BK192.out 1).trans rfl, (b8 BK192.out 2).trans rfl, (b8 BK199.out 0).trans rfl, (b8 BK199.out 1).trans rfl, (b8 BK199.out 2).trans rfl⟩ (fun hHeld => ?_)
            clear hK K
            refine norm_ (a' := ?_) ?_ ?_
            rotate_left
            ·show Act.put _ (some 63) _ = _
             simp only [Act.put, zA, zB, zC, i64_w, i32_w]
             rfl
            refine pure_ (i := 8) (N := some 64) (v := ?_) (a' := ?_) #[T,T,T,T,T,T,T,T,T,F,F,F,F,F,F,F,F,F,F,F,F,F,F,F,F,F,F,F,F,F,F,F,F,F,F,F,F,F,F,F,F,F,F,F] rfl rfl (any_of HT_.out (by kernel_rfl)) (fun _ _ _ h => h) (Or.inl ⟨by rfl, ?_⟩) ?_ ?_
            rotate_left; intro w'; go_simp; with_reducible rfl; rotate_left; simp only [Act.put, zA, zB, zC, i64_w, i32_w]; rfl
            refine pure_ (i := 9) (N := some 65) (v := ?_) (a' := ?_) #[T,T,T,T,T,T,T,T,T,T,F,F,F,F,F,F,F,F,F,F,F,F,F,F,F,F,F,F,F,F,F,F,F,F,F,F,F,F,F,F,F,F,F,F] rfl rfl (any_of HT_.out (by kernel_rfl)) (fun _ _ _ h => h) (Or.inl ⟨by rfl, ?_⟩) ?_ ?_
            rotate_left; intro w'; go_simp; with_reducible rfl; rotate_left; simp only [Act.put, zA, zB, zC, i64_w, i32_w]; rfl
            refine pure_ (i := 10) (N := some 66) (v := undef) (a' := ?_) #[T,T,T,T,T,T,T,T,T,T,T,F,F,F,F,F,F,F,F,F,F,F,F,F,F,F,F,F,F,F,F,F,F,F,F,F,F,F,F,F,F,F,F,F] rfl rfl (any_of HT_.out (by kernel_rfl)) (fun _ _ _ h => h) (Or.inr ⟨by rfl, rfl⟩) ?_ ?_
            rotate_left; simp only [Act.put, zA, zB, zC, i64_w, i32_w]; rfl
            refine pure_ (i := 11) (N := some 67) (v := undef) (a' := ?_) #[T,T,T,T,T,T,T,T,T,T,T,T,F,F,F,F,F,F,F,F,F,F,F,F,F,F,F,F,F,F,F,F,F,F,F,F,F,F,F,F,F,F,F,F] rfl rfl (any_of HT_.out (by kernel_rfl)) (fun _ _ _ h => h) (Or.inr ⟨by rfl, rfl⟩) ?_ ?_
            rotate_left; simp only [Act.put, zA, zB, zC, i64_w, i32_w]; rfl
            refine pure_ (i := 12) (N := some 68) (v := undef) (a' := ?_) #[T,T,T,T,T,T,T,T,T,T,T,T,T,F,F,F,F,F,F,F,F,F,F,F,F,F,F,F,F,F,F,F,F,F,F,F,F,F,F,F,F,F,F,F] rfl rfl (any_of HT_.out (by kernel_rfl)) (fun _ _ _ h => h) (Or.inr ⟨by rfl, rfl⟩) ?_ ?_
            rotate_left; simp only [Act.put, zA, zB, zC, i64_w, i32_w]; rfl
            refine pure_ (i := 13) (N := some 69) (v := undef) (a' := ?_) #[T,T,T,T,T,T,T,T,T,T,T,T,T,T,F,F,F,F,F,F,F,F,F,F,F,F,F,F,F,F,F,F,F,F,F,F,F,F,F,F,F,F,F,F] rfl rfl (any_of HT_.out (by kernel_rfl)) (fun _ _ _ h => h) (Or.inr ⟨by rfl, rfl⟩) ?_ ?_
            rotate_left; simp only [Act.put, zA, zB, zC, i64_w, i32_w]; rfl
            refine pure_ (i := 14) (N := some 70) (v := undef) (a' := ?_) #[T,T,T,T,T,T,T,T,T,T,T,T,T,T,T,F,F,F,F,F,F,F,F,F,F,F,F,F,F,F,F,F,F,F,F,F,F,F,F,F,F,F,F,F] rfl rfl (any_of HT_.out (by kernel_rfl)) (fun _ _ _ h => h) (Or.inr ⟨by rfl, rfl⟩) ?_ ?_
            rotate_left; simp only [Act.put, zA, zB, zC, i64_w, i32_w]; rfl
            refine pure_ (i := 15) (N := some 71) (v := undef) (a' := ?_) #[T,T,T,T,T,T,T,T,T,T,T,T,T,T,T,T,F,F,F,F,F,F,F,F,F,F,F,F,F,F,F,F,F,F,F,F,F,F,F,F,F,F,F,F] rfl rfl (any_of HT_.out (by kernel_rfl)) (fun _ _ _ h => h) (Or.inr ⟨by rfl, rfl⟩) ?_ ?_
            rotate_left; simp only [Act.put, zA, zB, zC, i64_w, i32_w]; rfl
            refine pure_ (i := 16) (N := some 72) (v := undef) (a' := ?_) #[T,T,T,T,T,T,T,T,T,T,T,T,T,T,T,T,T,F,F,F,F,F,F,F,F,F,F,F,F,F,F,F,F,F,F,F,F,F,F,F,F,F,F,F] rfl rfl (any_of HT_.out (by kernel_rfl)) (fun _ _ _ h => h) (Or.inr ⟨by rfl, rfl⟩) ?_ ?_
            rotate_left; simp only [Act.put, zA, zB, zC, i64_w, i32_w]; rfl
            refine pure_ (i := 17) (N := some 73) (v := ?_) (a' := ?_) #[T,T,T,T,T,T,T,T,T,T,T,T,T,T,T,T,T,T,F,F,F,F,F,F,F,F,F,F,F,F,F,F,F,F,F,F,F,F,F,F,F,F,F,F] rfl rfl (any_of HT_.out (by kernel_rfl)) (fun _ _ _ h => h) (Or.inl ⟨by rfl, ?_⟩) ?_ ?_
            rotate_left; intro w'; go_simp; with_reducible rfl; rotate_left; simp only [Act.put, zA, zB, zC, i64_w, i32_w]; rfl
            refine pure_ (i := 18) (N := some 74) (v := ?_) (a' := ?_) #[T,T,T,T,T,T,T,T,T,T,T,T,T,T,T,T,T,T,T,F,F,F,F,F,F,F,F,F,F,F,F,F,F,F,F,F,F,F,F,F,F,F,F,F] rfl rfl (any_of HT_.out (by kernel_rfl)) (fun _ _ _ h => h) (Or.inl ⟨by rfl, ?_⟩) ?_ ?_
            rotate_left; intro w'; go_simp; with_reducible rfl; rotate_left; simp only [Act.put, zA, zB, zC, i64_w, i32_w]; rfl
            refine pure_ (i := 19) (N := some 75) (v := undef) (a' := ?_) #[T,T,T,T,T,T,T,T,T,T,T,T,T,T,T,T,T,T,T,T,F,F,F,F,F,F,F,F,F,F,F,F,F,F,F,F,F,F,F,F,F,F,F,F] rfl rfl (any_of HT_.out (by kernel_rfl)) (fun _ _ _ h => h) (Or.inr ⟨by rfl, rfl⟩) ?_ ?_
            rotate_left; simp only [Act.put, zA, zB, zC, i64_w, i32_w]; rfl
            refine pure_ (i := 20) (N := some 76) (v := undef) (a' := ?_) #[T,T,T,T,T,T,T,T,T,T,T,T,T,T,T,T,T,T,T,T,T,F,F,F,F,F,F,F,F,F,F,F,F,F,F,F,F,F,F,F,F,F,F,F] rfl rfl (any_of HT_.out (by kernel_rfl)) (fun _ _ _ h => h) (Or.inr ⟨by rfl, rfl⟩) ?_ ?_
            rotate_left; simp only [Act.put, zA, zB, zC, i64_w, i32_w]; rfl
            refine pure_ (i := 21) (N := some 77) (v := undef) (a' := ?_) #[T,T,T,T,T,T,T,T,T,T,T,T,T,T,T,T,T,T,T,T,T,T,F,F,F,F,F,F,F,F,F,F,F,F,F,F,F,F,F,F,F,F,F,F] rfl rfl (any_of HT_.out (by kernel_rfl)) (fun _ _ _ h => h) (Or.inr ⟨by rfl, rfl⟩) ?_ ?_
            rotate_left; simp only [Act.put, zA, zB, zC, i64_w, i32_w]; rfl
            refine pure_ (i := 22) (N := some 78) (v := undef) (a' := ?_) #[T,T,T,T,T,T,T,T,T,T,T,T,T,T,T,T,T,T,T,T,T,T,T,F,F,F,F,F,F,F,F,F,F,F,F,F,F,F,F,F,F,F,F,F] rfl rfl (any_of HT_.out (by kernel_rfl)) (fun _ _ _ h => h) (Or.inr ⟨by rfl, rfl⟩) ?_ ?_
            rotate_left; simp only [Act.put, zA, zB, zC, i64_w, i32_w]; rfl
            refine pure_ (i := 23) (N := some 79) (v := undef) (a' := ?_) #[T,T,T,T,T,T,T,T,T,T,T,T,T,T,T,T,T,T,T,T,T,T,T,T,F,F,F,F,F,F,F,F,F,F,F,F,F,F,F,F,F,F,F,F] rfl rfl (any_of HT_.out (by kernel_rfl)) (fun _ _ _ h => h) (Or.inr ⟨by rfl, rfl⟩) ?_ ?_
            rotate_left; simp only [Act.put, zA, zB, zC, i64_w, i32_w]; rfl
            refine pure_ (i := 24) (N := some 80) (v := undef) (a' := ?_) #[T,T,T,T,T,T,T,T,T,T,T,T,T,T,T,T,T,T,T,T,T,T,T,T,T,F,F,F,F,F,F,F,F,F,F,F,F,F,F,F,F,F,F,F] rfl rfl (any_of HT_.out (by kernel_rfl)) (fun _ _ _ h => h) (Or.inr ⟨by rfl, rfl⟩) ?_ ?_
            rotate_left; simp only [Act.put, zA, zB, zC, i64_w, i32_w]; rfl
            refine pure_ (i := 25) (N := some 81) (v := undef) (a' := ?_) #[T,T,T,T,T,T,T,T,T,T,T,T,T,T,T,T,T,T,T,T,T,T,T,T,T,T,F,F,F,F,F,F,F,F,F,F,F,F,F,F,F,F,F,F] rfl rfl (any_of HT_.out (by kernel_rfl)) (fun _ _ _ h => h) (Or.inr ⟨by rfl, rfl⟩) ?_ ?_
            rotate_left; simp only [Act.put, zA, zB, zC, i64_w, i32_w]; rfl
            refine pure_ (i := 26) (N := some 82) (v := ?_) (a' := ?_) #[T,T,T,T,T,T,T,T,T,T,T,T,T,T,T,T,T,T,T,T,T,T,T,T,T,T,T,F,F,F,F,F,F,F,F,F,F,F,F,F,F,F,F,F] rfl rfl (any_of HT_.out (by kernel_rfl)) (fun _ _ _ h => h) (Or.inl ⟨by rfl, ?_⟩) ?_ ?_
            rotate_left; intro w'; go_simp; with_reducible rfl; rotate_left; simp only [Act.put, zA, zB, zC, i64_w, i32_w]; rfl
            refine pure_ (i := 27) (N := some 83) (v := ?_) (a' := ?_) #[T,T,T,T,T,T,T,T,T,T,T,T,T,T,T,T,T,T,T,T,T,T,T,T,T,T,T,T,F,F,F,F,F,F,F,F,F,F,F,F,F,F,F,F] rfl rfl (any_of HT_.out (by kernel_rfl)) (fun _ _ _ h => h) (Or.inl ⟨by rfl, ?_⟩) ?_ ?_
            rotate_left; intro w'; go_simp; with_reducible rfl; rotate_left; simp only [Act.put, zA, zB, zC, i64_w, i32_w]; rfl
            refine pure_ (i := 28) (N := some 84) (v := undef) (a' := ?_) #[T,T,T,T,T,T,T,T,T,T,T,T,T,T,T,T,T,T,T,T,T,T,T,T,T,T,T,T,T,F,F,F,F,F,F,F,F,F,F,F,F,F,F,F] rfl rfl (any_of HT_.out (by kernel_rfl)) (fun _ _ _ h => h) (Or.inr ⟨by rfl, rfl⟩) ?_ ?_
            rotate_left; simp only [Act.put, zA, zB, zC, i64_w, i32_w]; rfl
            refine pure_ (i := 29) (N := some 85) (v := undef) (a' := ?_) #[T,T,T,T,T,T,T,T,T,T,T,T,T,T,T,T,T,T,T,T,T,T,T,T,T,T,T,T,T,T,F,F,F,F,F,F,F,F,F,F,F,F,F,F] rfl rfl (any_of HT_.out (by kernel_rfl)) (fun _ _ _ h => h) (Or.inr ⟨by rfl, rfl⟩) ?_ ?_
            rotate_left; simp only [Act.put, zA, zB, zC, i64_w, i32_w]; rfl
            refine pure_ (i := 30) (N := some 86) (v := undef) (a' := ?_) #[T,T,T,T,T,T,T,T,T,T,T,T,T,T,T,T,T,T,T,T,T,T,T,T,T,T,T,T,T,T,T,F,F,F,F,F,F,F,F,F,F,F,F,F] rfl rfl (any_of HT_.out (by kernel_rfl)) (fun _ _ _ h => h) (Or.inr ⟨by rfl, rfl⟩) ?_ ?_
            rotate_left; simp only [Act.put, zA, zB, zC, i64_w, i32_w]; rfl
            refine pure_ (i := 31) (N := some 87) (v := undef) (a' := ?_) #[T,T,T,T,T,T,T,T,T,T,T,T,T,T,T,T,T,T,T,T,T,T,T,T,T,T,T,T,T,T,T,T,F,F,F,F,F,F,F,F,F,F,F,F] rfl rfl (any_of HT_.out (by kernel_rfl)) (fun _ _ _ h => h) (Or.inr ⟨by rfl, rfl⟩) ?_ ?_
            rotate_left; simp only [Act.put, zA, zB, zC, i64_w, i32_w]; rfl
            refine pure_ (i := 32) (N := some 88) (v := undef) (a' := ?_) #[T,T,T,T,T,T,T,T,T,T,T,T,T,T,T,T,T,T,T,T,T,T,T,T,T,T,T,T,T,T,T,T,T,F,F,F,F,F,F,F,F,F,F,F] rfl rfl (any_of HT_.out (by kernel_rfl)) (fun _ _ _ h => h) (Or.inr ⟨by rfl, rfl⟩) ?_ ?_
            rotate_left; simp only [Act.put, zA, zB, zC, i64_w, i32_w]; rfl
            refine pure_ (i := 33) (N := some 89) (v := ?_) (a' := ?_) #[T,T,T,T,T,T,T,T,T,T,T,T,T,T,T,T,T,T,T,T,T,T,T,T,T,T,T,T,T,T,T,T,T,T,F,F,F,F,F,F,F,F,F,F] rfl rfl (any_of HT_.out (by kernel_rfl)) (fun _ _ _ h => h) (Or.inl ⟨by rfl, ?_⟩) ?_ ?_
            rotate_left; intro w'; go_simp; with_reducible rfl; rotate_left; simp only [Act.put, zA, zB, zC, i64_w, i32_w]; rfl
            refine pure_ (i := 34) (N := some 90) (v := ?_) (a' := ?_) #[T,T,T,T,T,T,T,T,T,T,T,T,T,T,T,T,T,T,T,T,T,T,T,T,T,T,T,T,T,T,T,T,T,T,T,F,F,F,F,F,F,F,F,F] rfl rfl (any_of HT_.out (by kernel_rfl)) (fun _ _ _ h => h) (Or.inl ⟨by rfl, ?_⟩) ?_ ?_
            rotate_left; intro w'; go_simp; with_reducible rfl; rotate_left; simp only [Act.put, zA, zB, zC, i64_w, i32_w]; rfl
            refine pure_ (i := 35) (N := some 91) (v := undef) (a' := ?_) #[T,T,T,T,T,T,T,T,T,T,T,T,T,T,T,T,T,T,T,T,T,T,T,T,T,T,T,T,T,T,T,T,T,T,T,T,F,F,F,F,F,F,F,F] rfl rfl (any_of HT_.out (by kernel_rfl)) (fun _ _ _ h => h) (Or.inr ⟨by rfl, rfl⟩) ?_ ?_
            rotate_left; simp only [Act.put, zA, zB, zC, i64_w, i32_w]; rfl
            refine pure_ (i := 36) (N := some 92) (v := undef) (a' := ?_) #[T,T,T,T,T,T,T,T,T,T,T,T,T,T,T,T,T,T,T,T,T,T,T,T,T,T,T,T,T,T,T,T,T,T,T,T,T,F,F,F,F,F,F,F] rfl rfl (any_of HT_.out (by kernel_rfl)) (fun _ _ _ h => h) (Or.inr ⟨by rfl, rfl⟩) ?_ ?_
            rotate_left; simp only [Act.put, zA, zB, zC, i64_w, i32_w]; rfl
            refine pure_ (i := 37) (N := some 93) (v := undef) (a' := ?_) #[T,T,T,T,T,T,T,T,T,T,T,T,T,T,T,T,T,T,T,T,T,T,T,T,T,T,T,T,T,T,T,T,T,T,T,T,T,T,F,F,F,F,F,F] rfl rfl (any_of HT_.out (by kernel_rfl)) (fun _ _ _ h => h) (Or.inr ⟨by rfl, rfl⟩) ?_ ?_
            rotate_left; simp only [Act.put, zA, zB, zC, i64_w, i32_w]; rfl
            refine pure_ (i := 38) (N := some 94) (v := undef) (a' := ?_) #[T,T,T,T,T,T,T,T,T,T,T,T,T,T,T,T,T,T,T,T,T,T,T,T,T,T,T,T,T,T,T,T,T,T,T,T,T,T,T,F,F,F,F,F] rfl rfl (any_of HT_.out (by kernel_rfl)) (fun _ _ _ h => h) (Or.inr ⟨by rfl, rfl⟩) ?_ ?_
            rotate_left; simp only [Act.put, zA, zB, zC, i64_w, i32_w]; rfl
            refine pure_ (i := 39) (N := some 95) (v := undef) (a' := ?_) #[T,T,T,T,T,T,T,T,T,T,T,T,T,T,T,T,T,T,T,T,T,T,T,T,T,T,T,T,T,T,T,T,T,T,T,T,T,T,T,T,F,F,F,F] rfl rfl (any_of HT_.out (by kernel_rfl)) (fun _ _ _ h => h) (Or.inr ⟨by rfl, rfl⟩) ?_ ?_
            rotate_left; simp only [Act.put, zA, zB, zC, i64_w, i32_w]; rfl
            refine pure_ (i := 40) (N := some 96) (v := undef) (a' := ?_) #[T,T,T,T,T,T,T,T,T,T,T,T,T,T,T,T,T,T,T,T,T,T,T,T,T,T,T,T,T,T,T,T,T,T,T,T,T,T,T,T,T,F,F,F] rfl rfl (any_of HT_.out (by kernel_rfl)) (fun _ _ _ h => h) (Or.inr ⟨by rfl, rfl⟩) ?_ ?_
            rotate_left; simp only [Act.put, zA, zB, zC, i64_w, i32_w]; rfl
            refine pure_ (i := 41) (N := some 97) (v := undef) (a' := ?_) #[T,T,T,T,T,T,T,T,T,T,T,T,T,T,T,T,T,T,T,T,T,T,T,T,T,T,T,T,T,T,T,T,T,T,T,T,T,T,T,T,T,T,F,F] rfl rfl (any_of HT_.out (by kernel_rfl)) (fun _ _ _ h => h) (Or.inr ⟨by rfl, rfl⟩) ?_ ?_
            rotate_left; simp only [Act.put, zA, zB, zC, i64_w, i32_w]; rfl
            refine pure_ (i := 42) (N := some 98) (v := ?_) (a' := ?_) #[T,T,T,T,T,T,T,T,T,T,T,T,T,T,T,T,T,T,T,T,T,T,T,T,T,T,T,T,T,T,T,T,T,T,T,T,T,T,T,T,T,T,T,F] rfl rfl (any_of HT_.out (by kernel_rfl)) (fun _ _ _ h => h) (Or.inl ⟨by rfl, ?_⟩) ?_ ?_
            rotate_left; intro w'; go_simp; with_reducible rfl; rotate_left; simp only [Act.put, zA, zB, zC, i64_w, i32_w]; rfl
            refine pure_ (i := 43) (N := some 2) (v := ?_) (a' := ?_) #[T,T,T,T,T,T,T,T,T,T,T,T,T,T,T,T,T,T,T,T,T,T,T,T,T,T,T,T,T,T,T,T,T,T,T,T,T,T,T,T,T,T,T,T] rfl rfl (any_of HT_.out (by kernel_rfl)) (fun _ _ _ h => h) (Or.inl ⟨by rfl, ?_⟩) ?_ ?_
            rotate_left; intro w'; go_simp; with_reducible rfl; rotate_left; simp only [Act.put, zA, zB, zC, i64_w, i32_w]; rfl
            refine done_ (done_of HT_.out (by kernel_rfl)) ?_
            try go_wp2
            go_ret
            exact ⟨by first | rfl | (simp [errW_none, errW_some] <;> rfl) | (simp [*, errW_none, errW_some] <;> rfl), by repeat (first | (with_reducible first | exact HB.out | apply b5 | apply b4 | apply b6 | refine b7 ?_ GE182.out | refine b7 ?_ GE192.out | refine b7 ?_ GE199.out) | exact HB.out)⟩
          ·replace c37 := Bool.eq_false_iff.mpr c37
           subst c37
           have H1 : (some false) = some r := by rw [if_neg (show ¬ (false = true) by decide)] at H; exact H
           clear H
           have H := H1
           clear H1
           obtain rfl := Option.some.inj H
           have hnb116 := NB192_182.out
           have hnc116 := NB182_192.out
           have hcz117_0 : wc.cell? ⟨gb192, 0, none⟩ = some (.int .i64 t188) := (b8 BK192.out 0).trans rfl
           have hcz117_1 : wc.cell? ⟨gb192, 1, none⟩ = some (.int .i64 t189) := (b8 BK192.out 1).trans rfl
           have hcz117_2 : wc.cell? ⟨gb192, 2, none⟩ = some (.int .i64 t190) := (b8 BK192.out 2).trans rfl
           have hfz117_0 := blk_frozen BK192.out 0
           have hfz117_1 := blk_frozen BK192.out 1
           have hfz117_2 := blk_frozen BK192.out 2
           try go_wp2_with (first | ((with_reducible refine gate_callee (f := 21) rfl ?_); refine goesL_ (some 53) rfl rfl Try.func21 (by kernel_rfl) rfl #[.agg #[.int .i64 t188, .int .i64 t189, .int .i64 t190], .int .i64 (Int.tmod (rd t183 0) 60), .int .i64 (Int.tmod (rd t183 1) (wrap64 ((Int.tmod (rd t183 0) 60) + 1)))] rfl (by (try simp only [List.map_toArray, List.map_cons, List.map_nil]); first | done | rfl | (simp only [List.length_drop, List.length_take]; rfl)) ?_; (with_reducible refine (impl_Settle.calls t188 t189 t190 (Int.tmod (rd t183 0) 60) (Int.tmod (rd t183 1) (wrap64 ((Int.tmod (rd t183 0) 60) + 1))) t195 t196 t197 true _ A34.out).mono ?_); rintro e w118 ⟨rfl, hb⟩; refine ⟨_, rfl, ?_⟩; have n0_ := Am (blk_below (g := gb182) (o := .cells #[.int .i64 t179, .int .i64 t180, .int .i64 t181] 25 (0, 0)) (by (with_reducible repeat (first | refine b1 ?_ _ | refine b2 ?_ | refine b3 ?_ _)); exact BK182.out) hb); have n1_ := Am (blk_below (g := gb192) (o := .cells #[.int .i64 t188, .int .i64 t189, .int .i64 t190] 25 (0, 0)) (by (with_reducible repeat (first | refine b1 ?_ _ | refine b2 ?_ | refine b3 ?_ _)); exact BK192.out) hb); have n2_ := Am (below_step (by repeat (first | (with_reducible first | exact HB.out | apply b5 | apply b4 | apply b6 | refine b7 ?_ GE182.out | refine b7 ?_ GE192.out) | exact HB.out)) hb); clear BK182; clear BK192; clear HB; have BK182 := n0_; have BK192 := n1_; have HB := n2_; clear n0_ n1_ n2_; (try clear hb); (try clear hb2); (try clear hk); (try clear hi)) | ((with_reducible refine gate_dst (N := 9) rfl ?_); refine box_event ?hg (N := 9) ?hd (cs := #[.int .i64 0, .int .i64 0, .int .i64 0]) (t := 25) ?hr ?_; (case hd => rfl); (case hg => rfl); (case hr => first | (go_simp; done) | (go_simp; rfl)); intro gb199 hg w119 hbox hb; have n0_ := Am (blk_below (g := gb182) (o := .cells #[.int .i64 t179, .int .i64 t180, .int .i64 t181] 25 (0, 0)) (by (with_reducible repeat (first | refine b1 ?_ _ | refine b2 ?_ | refine b3 ?_ _)); exact BK182.out) hb); have n1_ := Am (blk_below (g := gb192) (o := .cells #[.int .i64 t188, .int .i64 t189, .int .i64 t190] 25 (0, 0)) (by (with_reducible repeat (first | refine b1 ?_ _ | refine b2 ?_ | refine b3 ?_ _)); exact BK192.out) hb); have n2_ := Am (below_step (by repeat (first | (with_reducible first | exact HB.out | apply b5 | apply b4 | apply b6 | refine b7 ?_ GE182.out | refine b7 ?_ GE192.out) | exact HB.out)) hb); have n3_ := Am (hbox); have n4_ := Am ((by rw [hg]; exact (below_size (by repeat (first | (with_reducible first | exact HB.out | apply b5 | apply b4 | apply b6 | refine b7 ?_ GE182.out | refine b7 ?_ GE192.out) | exact HB.out))) : w.heap.size ≤ gb199)); have n5_ := Am ((by rw [hg]; exact (below_size (by repeat (first | (with_reducible first | exact HB.out | apply b5 | apply b4 | apply b6 | refine b7 ?_ GE182.out | refine b7 ?_ GE192.out) | exact HB.out))) : w.heap.size ≤ gb199)); have n6_ := Am ((by rw [hg]; exact Nat.ne_of_lt (blk_lt (g := gb182) (o := .cells #[.int .i64 t179, .int .i64 t180, .int .i64 t181] 25 (0, 0)) (by (with_reducible repeat (first | refine b1 ?_ _ | refine b2 ?_ | refine b3 ?_ _)); exact BK182.out)) : gb182 ≠ gb199)); have n7_ := Am ((by rw [hg]; exact Nat.ne_of_gt (blk_lt (g := gb182) (o := .cells #[.int .i64 t179, .int .i64 t180, .int .i64 t181] 25 (0, 0)) (by (with_reducible repeat (first | refine b1 ?_ _ | refine b2 ?_ | refine b3 ?_ _)); exact BK182.out)) : gb199 ≠ gb182)); have n8_ := Am ((by rw [hg]; exact Nat.ne_of_lt (blk_lt (g := gb192) (o := .cells #[.int .i64 t188, .int .i64 t189, .int .i64 t190] 25 (0, 0)) (by (with_reducible repeat (first | refine b1 ?_ _ | refine b2 ?_ | refine b3 ?_ _)); exact BK192.out)) : gb192 ≠ gb199)); have n9_ := Am ((by rw [hg]; exact Nat.ne_of_gt (blk_lt (g := gb192) (o := .cells #[.int .i64 t188, .int .i64 t189, .int .i64 t190] 25 (0, 0)) (by (with_reducible repeat (first | refine b1 ?_ _ | refine b2 ?_ | refine b3 ?_ _)); exact BK192.out)) : gb199 ≠ gb192)); clear BK182; clear BK192; clear HB; have BK182 := n0_; have BK192 := n1_; have HB := n2_; have BK199 := n3_; have GW199 := n4_; have GE199 := n5_; have NB182_199 := n6_; have NB199_182 := n7_; have NB192_199 := n8_; have NB199_192 := n9_; clear n0_ n1_ n2_ n3_ n4_ n5_ n6_ n7_ n8_ n9_; clear hb hbox hg; have hnb120 := NB199_182.out; have hnc120 := NB182_199.out; have hnb121 := NB199_192.out; have hnc121 := NB192_199.out; have hcz122_0 : w119.cell? ⟨gb199, 0, none⟩ = some (.int .i64 0) := (b8 BK199.out 0).trans rfl; have hcz122_1 : w119.cell? ⟨gb199, 1, none⟩ = some (.int .i64 0) := (b8 BK199.out 1).trans rfl; have hcz122_2 : w119.cell? ⟨gb199, 2, none⟩ = some (.int .i64 0) := (b8 BK199.out 2).trans rfl; have hfz122_0 := blk_frozen BK199.out 0; have hfz122_1 := blk_frozen BK199.out 1; have hfz122_2 := blk_frozen BK199.out 2))
           have n0_ : Aside0 ((((w119.setCell ⟨gb199, 0, none⟩ (.int .i64 t195)).setCell ⟨gb199, 1, none⟩ (.int .i64 t196)).setCell ⟨gb199, 2, none⟩ (.int .i64 t197)).heap[gb182]? = some (.cells #[.int .i64 t179, .int .i64 t180, .int .i64 t181] 25 (0, 0))) := ⟨by (with_reducible repeat (first | refine b1 ?_ _ | refine b2 ?_ | refine b3 ?_ _)); refine blk_far ?_ NB182_199.out _; (with_reducible repeat (first | refine b1 ?_ _ | refine b2 ?_ | refine b3 ?_ _)); refine blk_far ?_ NB182_199.out _; (with_reducible repeat (first | refine b1 ?_ _ | refine b2 ?_ | refine b3 ?_ _)); refine blk_far ?_ NB182_199.out _; (with_reducible repeat (first | refine b1 ?_ _ | refine b2 ?_ | refine b3 ?_ _)); exact BK182.out⟩
           have n1_ : Aside0 ((((w119.setCell ⟨gb199, 0, none⟩ (.int .i64 t195)).setCell ⟨gb199, 1, none⟩ (.int .i64 t196)).setCell ⟨gb199, 2, none⟩ (.int .i64 t197)).heap[gb192]? = some (.cells #[.int .i64 t188, .int .i64 t189, .int .i64 t190] 25 (0, 0))) := ⟨by (with_reducible repeat (first | refine b1 ?_ _ | refine b2 ?_ | refine b3 ?_ _)); refine blk_far ?_ NB192_199.out _; (with_reducible repeat (first | refine b1 ?_ _ | refine b2 ?_ | refine b3 ?_ _)); refine blk_far ?_ NB192_199.out _; (with_reducible repeat (first | refine b1 ?_ _ | refine b2 ?_ | refine b3 ?_ _)); refine blk_far ?_ NB192_199.out _; (with_reducible repeat (first | refine b1 ?_ _ | refine b2 ?_ | refine b3 ?_ _)); exact BK192.out⟩
           have n2_ : Aside0 ((((w119.setCell ⟨gb199, 0, none⟩ (.int .i64 t195)).setCell ⟨gb199, 1, none⟩ (.int .i64 t196)).setCell ⟨gb199, 2, none⟩ (.int .i64 t197)).heap[gb199]? = some (.cells #[.int .i64 t195, .int .i64 t196, .int .i64 t197] 25 (0, 0))) := ⟨by (with_reducible repeat (first | refine b1 ?_ _ | refine b2 ?_ | refine b3 ?_ _)); refine blk_put (cs := #[.int .i64 t195, .int .i64 t196, .int .i64 0]) ?_ 2 _ rfl; (with_reducible repeat (first | refine b1 ?_ _ | refine b2 ?_ | refine b3 ?_ _)); refine blk_put (cs := #[.int .i64 t195, .int .i64 0, .int .i64 0]) ?_ 1 _ rfl; (with_reducible repeat (first | refine b1 ?_ _ | refine b2 ?_ | refine b3 ?_ _)); refine blk_put (cs := #[.int .i64 0, .int .i64 0, .int .i64 0]) ?_ 0 _ rfl; (with_reducible repeat (first | refine b1 ?_ _ | refine b2 ?_ | refine b3 ?_ _)); exact BK199.out⟩
           have n3_ : Aside0 (Below w.heap.size w (((w119.setCell ⟨gb199, 0, none⟩ (.int .i64 t195)).setCell ⟨gb199, 1, none⟩ (.int .i64 t196)).setCell ⟨gb199, 2, none⟩ (.int .i64 t197))) := ⟨by repeat (first | (with_reducible first | exact HB.out | apply b5 | apply b4 | apply b6 | refine b7 ?_ GE182.out | refine b7 ?_ GE192.out | refine b7 ?_ GE199.out) | exact HB.out)⟩
           (try clear BK182)
           (try clear BK192)
           (try clear BK199)
           (try clear HB)
           generalize (((w119.setCell ⟨gb199, 0, none⟩ (.int .i64 t195)).setCell ⟨gb199, 1, none⟩ (.int .i64 t196)).setCell ⟨gb199, 2, none⟩ (.int .i64 t197)) = w123 at n0_ n1_ n2_ n3_ ⊢
           have BK182 := n0_
           have BK192 := n1_
           have BK199 := n2_
           have HB := n3_
           clear n0_ n1_ n2_ n3_
           have n0_ := Am (b2 BK182.out)
           have n1_ := Am (b2 BK192.out)
           have n2_ := Am (b2 BK199.out)
           have n3_ := Am (b6 HB.out)
           clear BK182
           clear BK192
           clear BK199
           clear HB
           have BK182 := n0_
           have BK192 := n1_
           have BK199 := n2_
           have HB := n3_
           clear n0_ n1_ n2_ n3_
           refine start_ (n := 44) (S := fun w' => w'.cell? ⟨gb192, 0, none⟩ = some (.int .i64 t188) ∧ w'.cell? ⟨gb192, 1, none⟩ = some (.int .i64 t189) ∧ w'.cell? ⟨gb192, 2, none⟩ = some (.int .i64 t190)) (ds := []) #[F,F,F,F,F,F,F,F,F,F,F,F,F,F,F,F,F,F,F,F,F,F,F,F,F,F,F,F,F,F,F,F,F,F,F,F,F,F,F,F,F,F,F,F] (by kernel_rfl) rfl rfl ⟨(b8 BK192.out 0).trans rfl, (b8 BK192.out 1).trans rfl, (b8 BK192.out 2).trans rfl⟩ (fun hHeld => ?_); refine with_tabW laws_FnAccounts.tab13 laws_FnAccounts.bits13 (fun HT_ HW_ => ?_)
           generalize w123.drew = w124 at BK182 BK192 BK199 HB hHeld ⊢
           refine pure_ (i := 0) (N := some 56) (v := ?_) (a' := ?_) #[T,F,F,F,F,F,F,F,F,F,F,F,F,F,F,F,F,F,F,F,F,F,F,F,F,F,F,F,F,F,F,F,F,F,F,F,F,F,F,F,F,F,F,F] rfl rfl (any_of HT_.out (by kernel_rfl)) (fun _ _ _ h => h) (Or.inl ⟨by rfl, ?_⟩) ?_ ?_
           rotate_left; intro w'; go_simp; with_reducible rfl; rotate_left; simp only [Act.put, zA, zB, zC, i64_w, i32_w]; rfl
           refine pure_ (i := 1) (N := some 57) (v := ?_) (a' := ?_) #[T,T,F,F,F,F,F,F,F,F,F,F,F,F,F,F,F,F,F,F,F,F,F,F,F,F,F,F,F,F,F,F,F,F,F,F,F,F,F,F,F,F,F,F] rfl rfl (any_of HT_.out (by kernel_rfl)) (fun _ _ _ h => h) (Or.inl ⟨by rfl, ?_⟩) ?_ ?_
           rotate_left; intro w'; go_simp; with_reducible rfl; rotate_left; simp only [Act.put, zA, zB, zC, i64_w, i32_w]; rfl
           refine take_ (i := 2) (N := some 58) (v := ?_) (a' := ?_) #[T,T,T,F,F,F,F,F,F,F,F,F,F,F,F,F,F,F,F,F,F,F,F,F,F,F,F,F,F,F,F,F,F,F,F,F,F,F,F,F,F,F,F,F] rfl rfl (take_ofW HT_.out HW_.out (by kernel_rfl)) (fun _ _ _ h => h) (Or.inl ⟨by rfl, ?_⟩) hHeld ?_ ?_
           rotate_left; rintro w' ⟨s0, s1, s2⟩; go_simp; with_reducible rfl; rotate_left; simp only [Act.put, zA, zB, zC, i64_w, i32_w]; rfl
           refine one_ (i := 3) (N := some 59) #[T,T,T,T,F,F,F,F,F,F,F,F,F,F,F,F,F,F,F,F,F,F,F,F,F,F,F,F,F,F,F,F,F,F,F,F,F,F,F,F,F,F,F,F] rfl rfl (one_of HT_.out (by kernel_rfl)) (by decide) (fun K hK => ?_)
           refine goes_ Try.func19 (by kernel_rfl) rfl #[.agg #[.int .i64 t188, .int .i64 t189, .int .i64 t190]] (by rfl) rfl rfl (by (try simp only [List.map_toArray, List.map_cons, List.map_nil]); first | done | rfl | (simp only [List.length_drop, List.length_take]; rfl)) ?_
           with_reducible refine (impl_AccountOk.calls t188 t189 t190 false _ A36.out).mono ?_
           rintro e w125 ⟨rfl, hb⟩
           refine ⟨_, rfl, ?_⟩
           have n0_ := Am (blk_below (g := gb182) (o := .cells #[.int .i64 t179, .int .i64 t180, .int .i64 t181] 25 (0, 0)) (by (with_reducible repeat (first | refine b1 ?_ _ | refine b2 ?_ | refine b3 ?_ _)); exact BK182.out) hb)
           have n1_ := Am (blk_below (g := gb192) (o := .cells #[.int .i64 t188, .int .i64 t189, .int .i64 t190] 25 (0, 0)) (by (with_reducible repeat (first | refine b1 ?_ _ | refine b2 ?_ | refine b3 ?_ _)); exact BK192.out) hb)
           have n2_ := Am (blk_below (g := gb199) (o := .cells #[.int .i64 t195, .int .i64 t196, .int .i64 t197] 25 (0, 0)) (by (with_reducible repeat (first | refine b1 ?_ _ | refine b2 ?_ | refine b3 ?_ _)); exact BK199.out) hb)
           have n3_ := Am (below_step (by repeat (first | (with_reducible first | exact HB.out | apply b5 | apply b4 | apply b6 | refine b7 ?_ GE182.out | refine b7 ?_ GE192.out | refine b7 ?_ GE199.out) | exact HB.out)) hb)
           clear BK182
           clear BK192
           clear BK199
           clear HB
           have BK182 := n0_
           have BK192 := n1_
           have BK199 := n2_
           have HB := n3_
           clear n0_ n1_ n2_ n3_
           (try clear hb)
           (try clear hb2)
           (try clear hk)
           (try clear hi)
           refine hK.out _ _ ⟨(b8 BK192.out 0).trans rfl, (b8 BK192.out 1).trans rfl, (b8 BK192.out 2).trans rfl⟩ (fun hHeld => ?_)
           clear hK K
           refine norm_ (a' := ?_) ?_ ?_
           rotate_left
           ·show Act.put _ (some 59) _ = _
            simp only [Act.put, zA, zB, zC, i64_w, i32_w]
            rfl
           refine pure_ (i := 4) (N := some 60) (v := ?_) (a' := ?_) #[T,T,T,T,T,F,F,F,F,F,F,F,F,F,F,F,F,F,F,F,F,F,F,F,F,F,F,F,F,F,F,F,F,F,F,F,F,F,F,F,F,F,F,F] rfl rfl (any_of HT_.out (by kernel_rfl)) (fun _ _ _ h => h) (Or.inl ⟨by rfl, ?_⟩) ?_ ?_
           rotate_left; intro w'; go_simp; with_reducible rfl; rotate_left; simp only [Act.put, zA, zB, zC, i64_w, i32_w]; rfl
           refine pure_ (i := 5) (N := some 61) (v := ?_) (a' := ?_) #[T,T,T,T,T,T,F,F,F,F,F,F,F,F,F,F,F,F,F,F,F,F,F,F,F,F,F,F,F,F,F,F,F,F,F,F,F,F,F,F,F,F,F,F] rfl rfl (any_of HT_.out (by kernel_rfl)) (fun _ _ _ h => h) (Or.inl ⟨by rfl, ?_⟩) ?_ ?_
           rotate_left; intro w'; go_simp; with_reducible rfl; rotate_left; simp only [Act.put, zA, zB, zC, i64_w, i32_w]; rfl
           refine pure_ (i := 6) (N := some 62) (v := undef) (a' := ?_) #[T,T,T,T,T,T,T,F,F,F,F,F,F,F,F,F,F,F,F,F,F,F,F,F,F,F,F,F,F,F,F,F,F,F,F,F,F,F,F,F,F,F,F,F] rfl rfl (any_of HT_.out (by kernel_rfl)) (fun _ _ _ h => h) (Or.inr ⟨by rfl, rfl⟩) ?_ ?_
           rotate_left; simp only [Act.put, zA, zB, zC, i64_w, i32_w]; rfl
           refine pure_ (i := 7) (N := some 63) (v := undef) (a' := ?_) #[T,T,T,T,T,T,T,T,F,F,F,F,F,F,F,F,F,F,F,F,F,F,F,F,F,F,F,F,F,F,F,F,F,F,F,F,F,F,F,F,F,F,F,F] rfl rfl (any_of HT_.out (by kernel_rfl)) (fun _ _ _ h => h) (Or.inr ⟨by rfl, rfl⟩) ?_ ?_
           rotate_left; simp only [Act.put, zA, zB, zC, i64_w, i32_w]; rfl
           refine pure_ (i := 8) (N := some 64) (v := ?_) (a' := ?_) #[T,T,T,T,T,T,T,T,T,F,F,F,F,F,F,F,F,F,F,F,F,F,F,F,F,F,F,F,F,F,F,F,F,F,F,F,F,F,F,F,F,F,F,F] rfl rfl (any_of HT_.out (by kernel_rfl)) (fun _ _ _ h => h) (Or.inl ⟨by rfl, ?_⟩) ?_ ?_
           rotate_left; intro w'; go_simp; with_reducible rfl; rotate_left; simp only [Act.put, zA, zB, zC, i64_w, i32_w]; rfl
           refine pure_ (i := 9) (N := some 65) (v := ?_) (a' := ?_) #[T,T,T,T,T,T,T,T,T,T,F,F,F,F,F,F,F,F,F,F,F,F,F,F,F,F,F,F,F,F,F,F,F,F,F,F,F,F,F,F,F,F,F,F] rfl rfl (any_of HT_.out (by kernel_rfl)) (fun _ _ _ h => h) (Or.inl ⟨by rfl, ?_⟩) ?_ ?_
           rotate_left; intro w'; go_simp; with_reducible rfl; rotate_left; simp only [Act.put, zA, zB, zC, i64_w, i32_w]; rfl
           refine pure_ (i := 10) (N := some 66) (v := undef) (a' := ?_) #[T,T,T,T,T,T,T,T,T,T,T,F,F,F,F,F,F,F,F,F,F,F,F,F,F,F,F,F,F,F,F,F,F,F,F,F,F,F,F,F,F,F,F,F] rfl rfl (any_of HT_.out (by kernel_rfl)) (fun _ _ _ h => h) (Or.inr ⟨by rfl, rfl⟩) ?_ ?_
           rotate_left; simp only [Act.put, zA, zB, zC, i64_w, i32_w]; rfl
           refine pure_ (i := 11) (N := some 67) (v := undef) (a' := ?_) #[T,T,T,T,T,T,T,T,T,T,T,T,F,F,F,F,F,F,F,F,F,F,F,F,F,F,F,F,F,F,F,F,F,F,F,F,F,F,F,F,F,F,F,F] rfl rfl (any_of HT_.out (by kernel_rfl)) (fun _ _ _ h => h) (Or.inr ⟨by rfl, rfl⟩) ?_ ?_
           rotate_left; simp only [Act.put, zA, zB, zC, i64_w, i32_w]; rfl
           refine pure_ (i := 12) (N := some 68) (v := undef) (a' := ?_) #[T,T,T,T,T,T,T,T,T,T,T,T,T,F,F,F,F,F,F,F,F,F,F,F,F,F,F,F,F,F,F,F,F,F,F,F,F,F,F,F,F,F,F,F] rfl rfl (any_of HT_.out (by kernel_rfl)) (fun _ _ _ h => h) (Or.inr ⟨by rfl, rfl⟩) ?_ ?_
           rotate_left; simp only [Act.put, zA, zB, zC, i64_w, i32_w]; rfl
           refine pure_ (i := 13) (N := some 69) (v := undef) (a' := ?_) #[T,T,T,T,T,T,T,T,T,T,T,T,T,T,F,F,F,F,F,F,F,F,F,F,F,F,F,F,F,F,F,F,F,F,F,F,F,F,F,F,F,F,F,F] rfl rfl (any_of HT_.out (by kernel_rfl)) (fun _ _ _ h => h) (Or.inr ⟨by rfl, rfl⟩) ?_ ?_
           rotate_left; simp only [Act.put, zA, zB, zC, i64_w, i32_w]; rfl
           refine pure_ (i := 14) (N := some 70) (v := undef) (a' := ?_) #[T,T,T,T,T,T,T,T,T,T,T,T,T,T,T,F,F,F,F,F,F,F,F,F,F,F,F,F,F,F,F,F,F,F,F,F,F,F,F,F,F,F,F,F] rfl rfl (any_of HT_.out (by kernel_rfl)) (fun _ _ _ h => h) (Or.inr ⟨by rfl, rfl⟩) ?_ ?_
           rotate_left; simp only [Act.put, zA, zB, zC, i64_w, i32_w]; rfl
           refine pure_ (i := 15) (N := some 71) (v := undef) (a' := ?_) #[T,T,T,T,T,T,T,T,T,T,T,T,T,T,T,T,F,F,F,F,F,F,F,F,F,F,F,F,F,F,F,F,F,F,F,F,F,F,F,F,F,F,F,F] rfl rfl (any_of HT_.out (by kernel_rfl)) (fun _ _ _ h => h) (Or.inr ⟨by rfl, rfl⟩) ?_ ?_
           rotate_left; simp only [Act.put, zA, zB, zC, i64_w, i32_w]; rfl
           refine pure_ (i := 16) (N := some 72) (v := undef) (a' := ?_) #[T,T,T,T,T,T,T,T,T,T,T,T,T,T,T,T,T,F,F,F,F,F,F,F,F,F,F,F,F,F,F,F,F,F,F,F,F,F,F,F,F,F,F,F] rfl rfl (any_of HT_.out (by kernel_rfl)) (fun _ _ _ h => h) (Or.inr ⟨by rfl, rfl⟩) ?_ ?_
           rotate_left; simp only [Act.put, zA, zB, zC, i64_w, i32_w]; rfl
           refine pure_ (i := 17) (N := some 73) (v := ?_) (a' := ?_) #[T,T,T,T,T,T,T,T,T,T,T,T,T,T,T,T,T,T,F,F,F,F,F,F,F,F,F,F,F,F,F,F,F,F,F,F,F,F,F,F,F,F,F,F] rfl rfl (any_of HT_.out (by kernel_rfl)) (fun _ _ _ h => h) (Or.inl ⟨by rfl, ?_⟩) ?_ ?_
           rotate_left; intro w'; go_simp; with_reducible rfl; rotate_left; simp only [Act.put, zA, zB, zC, i64_w, i32_w]; rfl
           refine pure_ (i := 18) (N := some 74) (v := ?_) (a' := ?_) #[T,T,T,T,T,T,T,T,T,T,T,T,T,T,T,T,T,T,T,F,F,F,F,F,F,F,F,F,F,F,F,F,F,F,F,F,F,F,F,F,F,F,F,F] rfl rfl (any_of HT_.out (by kernel_rfl)) (fun _ _ _ h => h) (Or.inl ⟨by rfl, ?_⟩) ?_ ?_
           rotate_left; intro w'; go_simp; with_reducible rfl; rotate_left; simp only [Act.put, zA, zB, zC, i64_w, i32_w]; rfl
           refine pure_ (i := 19) (N := some 75) (v := undef) (a' := ?_) #[T,T,T,T,T,T,T,T,T,T,T,T,T,T,T,T,T,T,T,T,F,F,F,F,F,F,F,F,F,F,F,F,F,F,F,F,F,F,F,F,F,F,F,F] rfl rfl (any_of HT_.out (by kernel_rfl)) (fun _ _ _ h => h) (Or.inr ⟨by rfl, rfl⟩) ?_ ?_
           rotate_left; simp only [Act.put, zA, zB, zC, i64_w, i32_w]; rfl
           refine pure_ (i := 20) (N := some 76) (v := undef) (a' := ?_) #[T,T,T,T,T,T,T,T,T,T,T,T,T,T,T,T,T,T,T,T,T,F,F,F,F,F,F,F,F,F,F,F,F,F,F,F,F,F,F,F,F,F,F,F] rfl rfl (any_of HT_.out (by kernel_rfl)) (fun _ _ _ h => h) (Or.inr ⟨by rfl, rfl⟩) ?_ ?_
           rotate_left; simp only [Act.put, zA, zB, zC, i64_w, i32_w]; rfl
           refine pure_ (i := 21) (N := some 77) (v := undef) (a' := ?_) #[T,T,T,T,T,T,T,T,T,T,T,T,T,T,T,T,T,T,T,T,T,T,F,F,F,F,F,F,F,F,F,F,F,F,F,F,F,F,F,F,F,F,F,F] rfl rfl (any_of HT_.out (by kernel_rfl)) (fun _ _ _ h => h) (Or.inr ⟨by rfl, rfl⟩) ?_ ?_
           rotate_left; simp only [Act.put, zA, zB, zC, i64_w, i32_w]; rfl
           refine pure_ (i := 22) (N := some 78) (v := undef) (a' := ?_) #[T,T,T,T,T,T,T,T,T,T,T,T,T,T,T,T,T,T,T,T,T,T,T,F,F,F,F,F,F,F,F,F,F,F,F,F,F,F,F,F,F,F,F,F] rfl rfl (any_of HT_.out (by kernel_rfl)) (fun _ _ _ h => h) (Or.inr ⟨by rfl, rfl⟩) ?_ ?_
           rotate_left; simp only [Act.put, zA, zB, zC, i64_w, i32_w]; rfl
           refine pure_ (i := 23) (N := some 79) (v := undef) (a' := ?_) #[T,T,T,T,T,T,T,T,T,T,T,T,T,T,T,T,T,T,T,T,T,T,T,T,F,F,F,F,F,F,F,F,F,F,F,F,F,F,F,F,F,F,F,F] rfl rfl (any_of HT_.out (by kernel_rfl)) (fun _ _ _ h => h) (Or.inr ⟨by rfl, rfl⟩) ?_ ?_
           rotate_left; simp only [Act.put, zA, zB, zC, i64_w, i32_w]; rfl
           refine pure_ (i := 24) (N := some 80) (v := undef) (a' := ?_) #[T,T,T,T,T,T,T,T,T,T,T,T,T,T,T,T,T,T,T,T,T,T,T,T,T,F,F,F,F,F,F,F,F,F,F,F,F,F,F,F,F,F,F,F] rfl rfl (any_of HT_.out (by kernel_rfl)) (fun _ _ _ h => h) (Or.inr ⟨by rfl, rfl⟩) ?_ ?_
           rotate_left; simp only [Act.put, zA, zB, zC, i64_w, i32_w]; rfl
           refine pure_ (i := 25) (N := some 81) (v := undef) (a' := ?_) #[T,T,T,T,T,T,T,T,T,T,T,T,T,T,T,T,T,T,T,T,T,T,T,T,T,T,F,F,F,F,F,F,F,F,F,F,F,F,F,F,F,F,F,F] rfl rfl (any_of HT_.out (by kernel_rfl)) (fun _ _ _ h => h) (Or.inr ⟨by rfl, rfl⟩) ?_ ?_
           rotate_left; simp only [Act.put, zA, zB, zC, i64_w, i32_w]; rfl
           refine pure_ (i := 26) (N := some 82) (v := ?_) (a' := ?_) #[T,T,T,T,T,T,T,T,T,T,T,T,T,T,T,T,T,T,T,T,T,T,T,T,T,T,T,F,F,F,F,F,F,F,F,F,F,F,F,F,F,F,F,F] rfl rfl (any_of HT_.out (by kernel_rfl)) (fun _ _ _ h => h) (Or.inl ⟨by rfl, ?_⟩) ?_ ?_
           rotate_left; intro w'; go_simp; with_reducible rfl; rotate_left; simp only [Act.put, zA, zB, zC, i64_w, i32_w]; rfl
           refine pure_ (i := 27) (N := some 83) (v := ?_) (a' := ?_) #[T,T,T,T,T,T,T,T,T,T,T,T,T,T,T,T,T,T,T,T,T,T,T,T,T,T,T,T,F,F,F,F,F,F,F,F,F,F,F,F,F,F,F,F] rfl rfl (any_of HT_.out (by kernel_rfl)) (fun _ _ _ h => h) (Or.inl ⟨by rfl, ?_⟩) ?_ ?_
           rotate_left; intro w'; go_simp; with_reducible rfl; rotate_left; simp only [Act.put, zA, zB, zC, i64_w, i32_w]; rfl
           refine pure_ (i := 28) (N := some 84) (v := undef) (a' := ?_) #[T,T,T,T,T,T,T,T,T,T,T,T,T,T,T,T,T,T,T,T,T,T,T,T,T,T,T,T,T,F,F,F,F,F,F,F,F,F,F,F,F,F,F,F] rfl rfl (any_of HT_.out (by kernel_rfl)) (fun _ _ _ h => h) (Or.inr ⟨by rfl, rfl⟩) ?_ ?_
           rotate_left; simp only [Act.put, zA, zB, zC, i64_w, i32_w]; rfl
           refine pure_ (i := 29) (N := some 85) (v := undef) (a' := ?_) #[T,T,T,T,T,T,T,T,T,T,T,T,T,T,T,T,T,T,T,T,T,T,T,T,T,T,T,T,T,T,F,F,F,F,F,F,F,F,F,F,F,F,F,F] rfl rfl (any_of HT_.out (by kernel_rfl)) (fun _ _ _ h => h) (Or.inr ⟨by rfl, rfl⟩) ?_ ?_
           rotate_left; simp only [Act.put, zA, zB, zC, i64_w, i32_w]; rfl
           refine pure_ (i := 30) (N := some 86) (v := undef) (a' := ?_) #[T,T,T,T,T,T,T,T,T,T,T,T,T,T,T,T,T,T,T,T,T,T,T,T,T,T,T,T,T,T,T,F,F,F,F,F,F,F,F,F,F,F,F,F] rfl rfl (any_of HT_.out (by kernel_rfl)) (fun _ _ _ h => h) (Or.inr ⟨by rfl, rfl⟩) ?_ ?_
           rotate_left; simp only [Act.put, zA, zB, zC, i64_w, i32_w]; rfl
           refine pure_ (i := 31) (N := some 87) (v := undef) (a' := ?_) #[T,T,T,T,T,T,T,T,T,T,T,T,T,T,T,T,T,T,T,T,T,T,T,T,T,T,T,T,T,T,T,T,F,F,F,F,F,F,F,F,F,F,F,F] rfl rfl (any_of HT_.out (by kernel_rfl)) (fun _ _ _ h => h) (Or.inr ⟨by rfl, rfl⟩) ?_ ?_
           rotate_left; simp only [Act.put, zA, zB, zC, i64_w, i32_w]; rfl
           refine pure_ (i := 32) (N := some 88) (v := undef) (a' := ?_) #[T,T,T,T,T,T,T,T,T,T,T,T,T,T,T,T,T,T,T,T,T,T,T,T,T,T,T,T,T,T,T,T,T,F,F,F,F,F,F,F,F,F,F,F] rfl rfl (any_of HT_.out (by kernel_rfl)) (fun _ _ _ h => h) (Or.inr ⟨by rfl, rfl⟩) ?_ ?_
           rotate_left; simp only [Act.put, zA, zB, zC, i64_w, i32_w]; rfl
           refine pure_ (i := 33) (N := some 89) (v := ?_) (a' := ?_) #[T,T,T,T,T,T,T,T,T,T,T,T,T,T,T,T,T,T,T,T,T,T,T,T,T,T,T,T,T,T,T,T,T,T,F,F,F,F,F,F,F,F,F,F] rfl rfl (any_of HT_.out (by kernel_rfl)) (fun _ _ _ h => h) (Or.inl ⟨by rfl, ?_⟩) ?_ ?_
           rotate_left; intro w'; go_simp; with_reducible rfl; rotate_left; simp only [Act.put, zA, zB, zC, i64_w, i32_w]; rfl
           refine pure_ (i := 34) (N := some 90) (v := ?_) (a' := ?_) #[T,T,T,T,T,T,T,T,T,T,T,T,T,T,T,T,T,T,T,T,T,T,T,T,T,T,T,T,T,T,T,T,T,T,T,F,F,F,F,F,F,F,F,F] rfl rfl (any_of HT_.out (by kernel_rfl)) (fun _ _ _ h => h) (Or.inl ⟨by rfl, ?_⟩) ?_ ?_
           rotate_left; intro w'; go_simp; with_reducible rfl; rotate_left; simp only [Act.put, zA, zB, zC, i64_w, i32_w]; rfl
           refine pure_ (i := 35) (N := some 91) (v := undef) (a' := ?_) #[T,T,T,T,T,T,T,T,T,T,T,T,T,T,T,T,T,T,T,T,T,T,T,T,T,T,T,T,T,T,T,T,T,T,T,T,F,F,F,F,F,F,F,F] rfl rfl (any_of HT_.out (by kernel_rfl)) (fun _ _ _ h => h) (Or.inr ⟨by rfl, rfl⟩) ?_ ?_
           rotate_left; simp only [Act.put, zA, zB, zC, i64_w, i32_w]; rfl
           refine pure_ (i := 36) (N := some 92) (v := undef) (a' := ?_) #[T,T,T,T,T,T,T,T,T,T,T,T,T,T,T,T,T,T,T,T,T,T,T,T,T,T,T,T,T,T,T,T,T,T,T,T,T,F,F,F,F,F,F,F] rfl rfl (any_of HT_.out (by kernel_rfl)) (fun _ _ _ h => h) (Or.inr ⟨by rfl, rfl⟩) ?_ ?_
           rotate_left; simp only [Act.put, zA, zB, zC, i64_w, i32_w]; rfl
           refine pure_ (i := 37) (N := some 93) (v := undef) (a' := ?_) #[T,T,T,T,T,T,T,T,T,T,T,T,T,T,T,T,T,T,T,T,T,T,T,T,T,T,T,T,T,T,T,T,T,T,T,T,T,T,F,F,F,F,F,F] rfl rfl (any_of HT_.out (by kernel_rfl)) (fun _ _ _ h => h) (Or.inr ⟨by rfl, rfl⟩) ?_ ?_
           rotate_left; simp only [Act.put, zA, zB, zC, i64_w, i32_w]; rfl
           refine pure_ (i := 38) (N := some 94) (v := undef) (a' := ?_) #[T,T,T,T,T,T,T,T,T,T,T,T,T,T,T,T,T,T,T,T,T,T,T,T,T,T,T,T,T,T,T,T,T,T,T,T,T,T,T,F,F,F,F,F] rfl rfl (any_of HT_.out (by kernel_rfl)) (fun _ _ _ h => h) (Or.inr ⟨by rfl, rfl⟩) ?_ ?_
           rotate_left; simp only [Act.put, zA, zB, zC, i64_w, i32_w]; rfl
           refine pure_ (i := 39) (N := some 95) (v := undef) (a' := ?_) #[T,T,T,T,T,T,T,T,T,T,T,T,T,T,T,T,T,T,T,T,T,T,T,T,T,T,T,T,T,T,T,T,T,T,T,T,T,T,T,T,F,F,F,F] rfl rfl (any_of HT_.out (by kernel_rfl)) (fun _ _ _ h => h) (Or.inr ⟨by rfl, rfl⟩) ?_ ?_
           rotate_left; simp only [Act.put, zA, zB, zC, i64_w, i32_w]; rfl
           refine pure_ (i := 40) (N := some 96) (v := undef) (a' := ?_) #[T,T,T,T,T,T,T,T,T,T,T,T,T,T,T,T,T,T,T,T,T,T,T,T,T,T,T,T,T,T,T,T,T,T,T,T,T,T,T,T,T,F,F,F] rfl rfl (any_of HT_.out (by kernel_rfl)) (fun _ _ _ h => h) (Or.inr ⟨by rfl, rfl⟩) ?_ ?_
           rotate_left; simp only [Act.put, zA, zB, zC, i64_w, i32_w]; rfl
           refine pure_ (i := 41) (N := some 97) (v := undef) (a' := ?_) #[T,T,T,T,T,T,T,T,T,T,T,T,T,T,T,T,T,T,T,T,T,T,T,T,T,T,T,T,T,T,T,T,T,T,T,T,T,T,T,T,T,T,F,F] rfl rfl (any_of HT_.out (by kernel_rfl)) (fun _ _ _ h => h) (Or.inr ⟨by rfl, rfl⟩) ?_ ?_
           rotate_left; simp only [Act.put, zA, zB, zC, i64_w, i32_w]; rfl
           refine pure_ (i := 42) (N := some 98) (v := ?_) (a' := ?_) #[T,T,T,T,T,T,T,T,T,T,T,T,T,T,T,T,T,T,T,T,T,T,T,T,T,T,T,T,T,T,T,T,T,T,T,T,T,T,T,T,T,T,T,F] rfl rfl (any_of HT_.out (by kernel_rfl)) (fun _ _ _ h => h) (Or.inl ⟨by rfl, ?_⟩) ?_ ?_
           rotate_left; intro w'; go_simp; with_reducible rfl; rotate_left; simp only [Act.put, zA, zB, zC, i64_w, i32_w]; rfl
           refine pure_ (i := 43) (N := some 2) (v := ?_) (a' := ?_) #[T,T,T,T,T,T,T,T,T,T,T,T,T,T,T,T,T,T,T,T,T,T,T,T,T,T,T,T,T,T,T,T,T,T,T,T,T,T,T,T,T,T,T,T] rfl rfl (any_of HT_.out (by kernel_rfl)) (fun _ _ _ h => h) (Or.inl ⟨by rfl, ?_⟩) ?_ ?_
           rotate_left; intro w'; go_simp; with_reducible rfl; rotate_left; simp only [Act.put, zA, zB, zC, i64_w, i32_w]; rfl
           refine done_ (done_of HT_.out (by kernel_rfl)) ?_
           try go_wp2
           go_ret
           exact ⟨by first | rfl | (simp [errW_none, errW_some] <;> rfl) | (simp [*, errW_none, errW_some] <;> rfl), by repeat (first | (with_reducible first | exact HB.out | apply b5 | apply b4 | apply b6 | refine b7 ?_ GE182.out | refine b7 ?_ GE192.out | refine b7 ?_ GE199.out) | exact HB.out)⟩
         ·replace c35 := Bool.eq_false_iff.mpr c35
          subst c35
          have H1 : (some false) = some r := by rw [if_neg (show ¬ (false = true) by decide)] at H; exact H
          clear H
          have H := H1
          clear H1
          obtain rfl := Option.some.inj H
          have hnb126 := NB192_182.out
          have hnc126 := NB182_192.out
          have hcz127_0 : wc.cell? ⟨gb192, 0, none⟩ = some (.int .i64 t188) := (b8 BK192.out 0).trans rfl
          have hcz127_1 : wc.cell? ⟨gb192, 1, none⟩ = some (.int .i64 t189) := (b8 BK192.out 1).trans rfl
          have hcz127_2 : wc.cell? ⟨gb192, 2, none⟩ = some (.int .i64 t190) := (b8 BK192.out 2).trans rfl
          have hfz127_0 := blk_frozen BK192.out 0
          have hfz127_1 := blk_frozen BK192.out 1
          have hfz127_2 := blk_frozen BK192.out 2
          try go_wp2_with (first | ((with_reducible refine gate_callee (f := 21) rfl ?_); refine goesL_ (some 53) rfl rfl Try.func21 (by kernel_rfl) rfl #[.agg #[.int .i64 t188, .int .i64 t189, .int .i64 t190], .int .i64 (Int.tmod (rd t183 0) 60), .int .i64 (Int.tmod (rd t183 1) (wrap64 ((Int.tmod (rd t183 0) 60) + 1)))] rfl (by (try simp only [List.map_toArray, List.map_cons, List.map_nil]); first | done | rfl | (simp only [List.length_drop, List.length_take]; rfl)) ?_; (with_reducible refine (impl_Settle.calls t188 t189 t190 (Int.tmod (rd t183 0) 60) (Int.tmod (rd t183 1) (wrap64 ((Int.tmod (rd t183 0) 60) + 1))) t195 t196 t197 false _ A34.out).mono ?_); rintro e w128 ⟨rfl, hb⟩; refine ⟨_, rfl, ?_⟩; have n0_ := Am (blk_below (g := gb182) (o := .cells #[.int .i64 t179, .int .i64 t180, .int .i64 t181] 25 (0, 0)) (by (with_reducible repeat (first | refine b1 ?_ _ | refine b2 ?_ | refine b3 ?_ _)); exact BK182.out) hb); have n1_ := Am (blk_below (g := gb192) (o := .cells #[.int .i64 t188, .int .i64 t189, .int .i64 t190] 25 (0, 0)) (by (with_reducible repeat (first | refine b1 ?_ _ | refine b2 ?_ | refine b3 ?_ _)); exact BK192.out) hb); have n2_ := Am (below_step (by repeat (first | (with_reducible first | exact HB.out | apply b5 | apply b4 | apply b6 | refine b7 ?_ GE182.out | refine b7 ?_ GE192.out) | exact HB.out)) hb); clear BK182; clear BK192; clear HB; have BK182 := n0_; have BK192 := n1_; have HB := n2_; clear n0_ n1_ n2_; (try clear hb); (try clear hb2); (try clear hk); (try clear hi)) | ((with_reducible refine gate_dst (N := 9) rfl ?_); refine box_event ?hg (N := 9) ?hd (cs := #[.int .i64 0, .int .i64 0, .int .i64 0]) (t := 25) ?hr ?_; (case hd => rfl); (case hg => rfl); (case hr => first | (go_simp; done) | (go_simp; rfl)); intro gb199 hg w129 hbox hb; have n0_ := Am (blk_below (g := gb182) (o := .cells #[.int .i64 t179, .int .i64 t180, .int .i64 t181] 25 (0, 0)) (by (with_reducible repeat (first | refine b1 ?_ _ | refine b2 ?_ | refine b3 ?_ _)); exact BK182.out) hb); have n1_ := Am (blk_below (g := gb192) (o := .cells #[.int .i64 t188, .int .i64 t189, .int .i64 t190] 25 (0, 0)) (by (with_reducible repeat (first | refine b1 ?_ _ | refine b2 ?_ | refine b3 ?_ _)); exact BK192.out) hb); have n2_ := Am (below_step (by repeat (first | (with_reducible first | exact HB.out | apply b5 | apply b4 | apply b6 | refine b7 ?_ GE182.out | refine b7 ?_ GE192.out) | exact HB.out)) hb); have n3_ := Am (hbox); have n4_ := Am ((by rw [hg]; exact (below_size (by repeat (first | (with_reducible first | exact HB.out | apply b5 | apply b4 | apply b6 | refine b7 ?_ GE182.out | refine b7 ?_ GE192.out) | exact HB.out))) : w.heap.size ≤ gb199)); have n5_ := Am ((by rw [hg]; exact (below_size (by repeat (first | (with_reducible first | exact HB.out | apply b5 | apply b4 | apply b6 | refine b7 ?_ GE182.out | refine b7 ?_ GE192.out) | exact HB.out))) : w.heap.size ≤ gb199)); have n6_ := Am ((by rw [hg]; exact Nat.ne_of_lt (blk_lt (g := gb182) (o := .cells #[.int .i64 t179, .int .i64 t180, .int .i64 t181] 25 (0, 0)) (by (with_reducible repeat (first | refine b1 ?_ _ | refine b2 ?_ | refine b3 ?_ _)); exact BK182.out)) : gb182 ≠ gb199)); have n7_ := Am ((by rw [hg]; exact Nat.ne_of_gt (blk_lt (g := gb182) (o := .cells #[.int .i64 t179, .int .i64 t180, .int .i64 t181] 25 (0, 0)) (by (with_reducible repeat (first | refine b1 ?_ _ | refine b2 ?_ | refine b3 ?_ _)); exact BK182.out)) : gb199 ≠ gb182)); have n8_ := Am ((by rw [hg]; exact Nat.ne_of_lt (blk_lt (g := gb192) (o := .cells #[.int .i64 t188, .int .i64 t189, .int .i64 t190] 25 (0, 0)) (by (with_reducible repeat (first | refine b1 ?_ _ | refine b2 ?_ | refine b3 ?_ _)); exact BK192.out)) : gb192 ≠ gb199)); have n9_ := Am ((by rw [hg]; exact Nat.ne_of_gt (blk_lt (g := gb192) (o := .cells #[.int .i64 t188, .int .i64 t189, .int .i64 t190] 25 (0, 0)) (by (with_reducible repeat (first | refine b1 ?_ _ | refine b2 ?_ | refine b3 ?_ _)); exact BK192.out)) : gb199 ≠ gb192)); clear BK182; clear BK192; clear HB; have BK182 := n0_; have BK192 := n1_; have HB := n2_; have BK199 := n3_; have GW199 := n4_; have GE199 := n5_; have NB182_199 := n6_; have NB199_182 := n7_; have NB192_199 := n8_; have NB199_192 := n9_; clear n0_ n1_ n2_ n3_ n4_ n5_ n6_ n7_ n8_ n9_; clear hb hbox hg; have hnb130 := NB199_182.out; have hnc130 := NB182_199.out; have hnb131 := NB199_192.out; have hnc131 := NB192_199.out; have hcz132_0 : w129.cell? ⟨gb199, 0, none⟩ = some (.int .i64 0) := (b8 BK199.out 0).trans rfl; have hcz132_1 : w129.cell? ⟨gb199, 1, none⟩ = some (.int .i64 0) := (b8 BK199.out 1).trans rfl; have hcz132_2 : w129.cell? ⟨gb199, 2, none⟩ = some (.int .i64 0) := (b8 BK199.out 2).trans rfl; have hfz132_0 := blk_frozen BK199.out 0; have hfz132_1 := blk_frozen BK199.out 1; have hfz132_2 := blk_frozen BK199.out 2))
          have n0_ : Aside0 ((((w129.setCell ⟨gb199, 0, none⟩ (.int .i64 t195)).setCell ⟨gb199, 1, none⟩ (.int .i64 t196)).setCell ⟨gb199, 2, none⟩ (.int .i64 t197)).heap[gb182]? = some (.cells #[.int .i64 t179, .int .i64 t180, .int .i64 t181] 25 (0, 0))) := ⟨by (with_reducible repeat (first | refine b1 ?_ _ | refine b2 ?_ | refine b3 ?_ _)); refine blk_far ?_ NB182_199.out _; (with_reducible repeat (first | refine b1 ?_ _ | refine b2 ?_ | refine b3 ?_ _)); refine blk_far ?_ NB182_199.out _; (with_reducible repeat (first | refine b1 ?_ _ | refine b2 ?_ | refine b3 ?_ _)); refine blk_far ?_ NB182_199.out _; (with_reducible repeat (first | refine b1 ?_ _ | refine b2 ?_ | refine b3 ?_ _)); exact BK182.out⟩
          have n1_ : Aside0 ((((w129.setCell ⟨gb199, 0, none⟩ (.int .i64 t195)).setCell ⟨gb199, 1, none⟩ (.int .i64 t196)).setCell ⟨gb199, 2, none⟩ (.int .i64 t197)).heap[gb192]? = some (.cells #[.int .i64 t188, .int .i64 t189, .int .i64 t190] 25 (0, 0))) := ⟨by (with_reducible repeat (first | refine b1 ?_ _ | refine b2 ?_ | refine b3 ?_ _)); refine blk_far ?_ NB192_199.out _; (with_reducible repeat (first | refine b1 ?_ _ | refine b2 ?_ | refine b3 ?_ _)); refine blk_far ?_ NB192_199.out _; (with_reducible repeat (first | refine b1 ?_ _ | refine b2 ?_ | refine b3 ?_ _)); refine blk_far ?_ NB192_199.out _; (with_reducible repeat (first | refine b1 ?_ _ | refine b2 ?_ | refine b3 ?_ _)); exact BK192.out⟩
          have n2_ : Aside0 ((((w129.setCell ⟨gb199, 0, none⟩ (.int .i64 t195)).setCell ⟨gb199, 1, none⟩ (.int .i64 t196)).setCell ⟨gb199, 2, none⟩ (.int .i64 t197)).heap[gb199]? = some (.cells #[.int .i64 t195, .int .i64 t196, .int .i64 t197] 25 (0, 0))) := ⟨by (with_reducible repeat (first | refine b1 ?_ _ | refine b2 ?_ | refine b3 ?_ _)); refine blk_put (cs := #[.int .i64 t195, .int .i64 t196, .int .i64 0]) ?_ 2 _ rfl; (with_reducible repeat (first | refine b1 ?_ _ | refine b2 ?_ | refine b3 ?_ _)); refine blk_put (cs := #[.int .i64 t195, .int .i64 0, .int .i64 0]) ?_ 1 _ rfl; (with_reducible repeat (first | refine b1 ?_ _ | refine b2 ?_ | refine b3 ?_ _)); refine blk_put (cs := #[.int .i64 0, .int .i64 0, .int .i64 0]) ?_ 0 _ rfl; (with_reducible repeat (first | refine b1 ?_ _ | refine b2 ?_ | refine b3 ?_ _)); exact BK199.out⟩
          have n3_ : Aside0 (Below w.heap.size w (((w129.setCell ⟨gb199, 0, none⟩ (.int .i64 t195)).setCell ⟨gb199, 1, none⟩ (.int .i64 t196)).setCell ⟨gb199, 2, none⟩ (.int .i64 t197))) := ⟨by repeat (first | (with_reducible first | exact HB.out | apply b5 | apply b4 | apply b6 | refine b7 ?_ GE182.out | refine b7 ?_ GE192.out | refine b7 ?_ GE199.out) | exact HB.out)⟩
          (try clear BK182)
          (try clear BK192)
          (try clear BK199)
          (try clear HB)
          generalize (((w129.setCell ⟨gb199, 0, none⟩ (.int .i64 t195)).setCell ⟨gb199, 1, none⟩ (.int .i64 t196)).setCell ⟨gb199, 2, none⟩ (.int .i64 t197)) = w133 at n0_ n1_ n2_ n3_ ⊢
          have BK182 := n0_
          have BK192 := n1_
          have BK199 := n2_
          have HB := n3_
          clear n0_ n1_ n2_ n3_
          have n0_ := Am (b2 BK182.out)
          have n1_ := Am (b2 BK192.out)
          have n2_ := Am (b2 BK199.out)
          have n3_ := Am (b6 HB.out)
          clear BK182
          clear BK192
          clear BK199
          clear HB
          have BK182 := n0_
          have BK192 := n1_
          have BK199 := n2_
          have HB := n3_
          clear n0_ n1_ n2_ n3_
          refine start_ (n := 44) (S := fun w' => True) (ds := []) #[F,F,F,F,F,F,F,F,F,F,F,F,F,F,F,F,F,F,F,F,F,F,F,F,F,F,F,F,F,F,F,F,F,F,F,F,F,F,F,F,F,F,F,F] (by kernel_rfl) rfl rfl trivial (fun hHeld => ?_); refine with_tabW laws_FnAccounts.tab13 laws_FnAccounts.bits13 (fun HT_ HW_ => ?_)
          generalize w133.drew = w134 at BK182 BK192 BK199 HB hHeld ⊢
          refine pure_ (i := 0) (N := some 56) (v := ?_) (a' := ?_) #[T,F,F,F,F,F,F,F,F,F,F,F,F,F,F,F,F,F,F,F,F,F,F,F,F,F,F,F,F,F,F,F,F,F,F,F,F,F,F,F,F,F,F,F] rfl rfl (any_of HT_.out (by kernel_rfl)) (fun _ _ _ h => h) (Or.inl ⟨by rfl, ?_⟩) ?_ ?_
          rotate_left; intro w'; go_simp; with_reducible rfl; rotate_left; simp only [Act.put, zA, zB, zC, i64_w, i32_w]; rfl
          refine pure_ (i := 1) (N := some 57) (v := ?_) (a' := ?_) #[T,T,F,F,F,F,F,F,F,F,F,F,F,F,F,F,F,F,F,F,F,F,F,F,F,F,F,F,F,F,F,F,F,F,F,F,F,F,F,F,F,F,F,F] rfl rfl (any_of HT_.out (by kernel_rfl)) (fun _ _ _ h => h) (Or.inl ⟨by rfl, ?_⟩) ?_ ?_
          rotate_left; intro w'; go_simp; with_reducible rfl; rotate_left; simp only [Act.put, zA, zB, zC, i64_w, i32_w]; rfl
          refine pure_ (i := 2) (N := some 58) (v := undef) (a' := ?_) #[T,T,T,F,F,F,F,F,F,F,F,F,F,F,F,F,F,F,F,F,F,F,F,F,F,F,F,F,F,F,F,F,F,F,F,F,F,F,F,F,F,F,F,F] rfl rfl (any_of HT_.out (by kernel_rfl)) (fun _ _ _ h => h) (Or.inr ⟨by rfl, rfl⟩) ?_ ?_
          rotate_left; simp only [Act.put, zA, zB, zC, i64_w, i32_w]; rfl
          refine pure_ (i := 3) (N := some 59) (v := undef) (a' := ?_) #[T,T,T,T,F,F,F,F,F,F,F,F,F,F,F,F,F,F,F,F,F,F,F,F,F,F,F,F,F,F,F,F,F,F,F,F,F,F,F,F,F,F,F,F] rfl rfl (any_of HT_.out (by kernel_rfl)) (fun _ _ _ h => h) (Or.inr ⟨by rfl, rfl⟩) ?_ ?_
          rotate_left; simp only [Act.put, zA, zB, zC, i64_w, i32_w]; rfl
          refine pure_ (i := 4) (N := some 60) (v := ?_) (a' := ?_) #[T,T,T,T,T,F,F,F,F,F,F,F,F,F,F,F,F,F,F,F,F,F,F,F,F,F,F,F,F,F,F,F,F,F,F,F,F,F,F,F,F,F,F,F] rfl rfl (any_of HT_.out (by kernel_rfl)) (fun _ _ _ h => h) (Or.inl ⟨by rfl, ?_⟩) ?_ ?_
          rotate_left; intro w'; go_simp; with_reducible rfl; rotate_left; simp only [Act.put, zA, zB, zC, i64_w, i32_w]; rfl
          refine pure_ (i := 5) (N := some 61) (v := ?_) (a' := ?_) #[T,T,T,T,T,T,F,F,F,F,F,F,F,F,F,F,F,F,F,F,F,F,F,F,F,F,F,F,F,F,F,F,F,F,F,F,F,F,F,F,F,F,F,F] rfl rfl (any_of HT_.out (by kernel_rfl)) (fun _ _ _ h => h) (Or.inl ⟨by rfl, ?_⟩) ?_ ?_
          rotate_left; intro w'; go_simp; with_reducible rfl; rotate_left; simp only [Act.put, zA, zB, zC, i64_w, i32_w]; rfl
          refine pure_ (i := 6) (N := some 62) (v := undef) (a' := ?_) #[T,T,T,T,T,T,T,F,F,F,F,F,F,F,F,F,F,F,F,F,F,F,F,F,F,F,F,F,F,F,F,F,F,F,F,F,F,F,F,F,F,F,F,F] rfl rfl (any_of HT_.out (by kernel_rfl)) (fun _ _ _ h => h) (Or.inr ⟨by rfl, rfl⟩) ?_ ?_
          rotate_left; simp only [Act.put, zA, zB, zC, i64_w, i32_w]; rfl
          refine pure_ (i := 7) (N := some 63) (v := undef) (a' := ?_) #[T,T,T,T,T,T,T,T,F,F,F,F,F,F,F,F,F,F,F,F,F,F,F,F,F,F,F,F,F,F,F,F,F,F,F,F,F,F,F,F,F,F,F,F] rfl rfl (any_of HT_.out (by kernel_rfl)) (fun _ _ _ h => h) (Or.inr ⟨by rfl, rfl⟩) ?_ ?_
          rotate_left; simp only [Act.put, zA, zB, zC, i64_w, i32_w]; rfl
          refine pure_ (i := 8) (N := some 64) (v := ?_) (a' := ?_) #[T,T,T,T,T,T,T,T,T,F,F,F,F,F,F,F,F,F,F,F,F,F,F,F,F,F,F,F,F,F,F,F,F,F,F,F,F,F,F,F,F,F,F,F] rfl rfl (any_of HT_.out (by kernel_rfl)) (fun _ _ _ h => h) (Or.inl ⟨by rfl, ?_⟩) ?_ ?_
          rotate_left; intro w'; go_simp; with_reducible rfl; rotate_left; simp only [Act.put, zA, zB, zC, i64_w, i32_w]; rfl
          refine pure_ (i := 9) (N := some 65) (v := ?_) (a' := ?_) #[T,T,T,T,T,T,T,T,T,T,F,F,F,F,F,F,F,F,F,F,F,F,F,F,F,F,F,F,F,F,F,F,F,F,F,F,F,F,F,F,F,F,F,F] rfl rfl (any_of HT_.out (by kernel_rfl)) (fun _ _ _ h => h) (Or.inl ⟨by rfl, ?_⟩) ?_ ?_
          rotate_left; intro w'; go_simp; with_reducible rfl; rotate_left; simp only [Act.put, zA, zB, zC, i64_w, i32_w]; rfl
          refine pure_ (i := 10) (N := some 66) (v := undef) (a' := ?_) #[T,T,T,T,T,T,T,T,T,T,T,F,F,F,F,F,F,F,F,F,F,F,F,F,F,F,F,F,F,F,F,F,F,F,F,F,F,F,F,F,F,F,F,F] rfl rfl (any_of HT_.out (by kernel_rfl)) (fun _ _ _ h => h) (Or.inr ⟨by rfl, rfl⟩) ?_ ?_
          rotate_left; simp only [Act.put, zA, zB, zC, i64_w, i32_w]; rfl
          refine pure_ (i := 11) (N := some 67) (v := undef) (a' := ?_) #[T,T,T,T,T,T,T,T,T,T,T,T,F,F,F,F,F,F,F,F,F,F,F,F,F,F,F,F,F,F,F,F,F,F,F,F,F,F,F,F,F,F,F,F] rfl rfl (any_of HT_.out (by kernel_rfl)) (fun _ _ _ h => h) (Or.inr ⟨by rfl, rfl⟩) ?_ ?_
          rotate_left; simp only [Act.put, zA, zB, zC, i64_w, i32_w]; rfl
          refine pure_ (i := 12) (N := some 68) (v := undef) (a' := ?_) #[T,T,T,T,T,T,T,T,T,T,T,T,T,F,F,F,F,F,F,F,F,F,F,F,F,F,F,F,F,F,F,F,F,F,F,F,F,F,F,F,F,F,F,F] rfl rfl (any_of HT_.out (by kernel_rfl)) (fun _ _ _ h => h) (Or.inr ⟨by rfl, rfl⟩) ?_ ?_
          rotate_left; simp only [Act.put, zA, zB, zC, i64_w, i32_w]; rfl
          refine pure_ (i := 13) (N := some 69) (v := undef) (a' := ?_) #[T,T,T,T,T,T,T,T,T,T,T,T,T,T,F,F,F,F,F,F,F,F,F,F,F,F,F,F,F,F,F,F,F,F,F,F,F,F,F,F,F,F,F,F] rfl rfl (any_of HT_.out (by kernel_rfl)) (fun _ _ _ h => h) (Or.inr ⟨by rfl, rfl⟩) ?_ ?_
          rotate_left; simp only [Act.put, zA, zB, zC, i64_w, i32_w]; rfl
          refine pure_ (i := 14) (N := some 70) (v := undef) (a' := ?_) #[T,T,T,T,T,T,T,T,T,T,T,T,T,T,T,F,F,F,F,F,F,F,F,F,F,F,F,F,F,F,F,F,F,F,F,F,F,F,F,F,F,F,F,F] rfl rfl (any_of HT_.out (by kernel_rfl)) (fun _ _ _ h => h) (Or.inr ⟨by rfl, rfl⟩) ?_ ?_
          rotate_left; simp only [Act.put, zA, zB, zC, i64_w, i32_w]; rfl
          refine pure_ (i := 15) (N := some 71) (v := undef) (a' := ?_) #[T,T,T,T,T,T,T,T,T,T,T,T,T,T,T,T,F,F,F,F,F,F,F,F,F,F,F,F,F,F,F,F,F,F,F,F,F,F,F,F,F,F,F,F] rfl rfl (any_of HT_.out (by kernel_rfl)) (fun _ _ _ h => h) (Or.inr ⟨by rfl, rfl⟩) ?_ ?_
          rotate_left; simp only [Act.put, zA, zB, zC, i64_w, i32_w]; rfl
          refine pure_ (i := 16) (N := some 72) (v := undef) (a' := ?_) #[T,T,T,T,T,T,T,T,T,T,T,T,T,T,T,T,T,F,F,F,F,F,F,F,F,F,F,F,F,F,F,F,F,F,F,F,F,F,F,F,F,F,F,F] rfl rfl (any_of HT_.out (by kernel_rfl)) (fun _ _ _ h => h) (Or.inr ⟨by rfl, rfl⟩) ?_ ?_
          rotate_left; simp only [Act.put, zA, zB, zC, i64_w, i32_w]; rfl
          refine pure_ (i := 17) (N := some 73) (v := ?_) (a' := ?_) #[T,T,T,T,T,T,T,T,T,T,T,T,T,T,T,T,T,T,F,F,F,F,F,F,F,F,F,F,F,F,F,F,F,F,F,F,F,F,F,F,F,F,F,F] rfl rfl (any_of HT_.out (by kernel_rfl)) (fun _ _ _ h => h) (Or.inl ⟨by rfl, ?_⟩) ?_ ?_
          rotate_left; intro w'; go_simp; with_reducible rfl; rotate_left; simp only [Act.put, zA, zB, zC, i64_w, i32_w]; rfl
          refine pure_ (i := 18) (N := some 74) (v := ?_) (a' := ?_) #[T,T,T,T,T,T,T,T,T,T,T,T,T,T,T,T,T,T,T,F,F,F,F,F,F,F,F,F,F,F,F,F,F,F,F,F,F,F,F,F,F,F,F,F] rfl rfl (any_of HT_.out (by kernel_rfl)) (fun _ _ _ h => h) (Or.inl ⟨by rfl, ?_⟩) ?_ ?_
          rotate_left; intro w'; go_simp; with_reducible rfl; rotate_left; simp only [Act.put, zA, zB, zC, i64_w, i32_w]; rfl
          refine pure_ (i := 19) (N := some 75) (v := undef) (a' := ?_) #[T,T,T,T,T,T,T,T,T,T,T,T,T,T,T,T,T,T,T,T,F,F,F,F,F,F,F,F,F,F,F,F,F,F,F,F,F,F,F,F,F,F,F,F] rfl rfl (any_of HT_.out (by kernel_rfl)) (fun _ _ _ h => h) (Or.inr ⟨by rfl, rfl⟩) ?_ ?_
          rotate_left; simp only [Act.put, zA, zB, zC, i64_w, i32_w]; rfl
          refine pure_ (i := 20) (N := some 76) (v := undef) (a' := ?_) #[T,T,T,T,T,T,T,T,T,T,T,T,T,T,T,T,T,T,T,T,T,F,F,F,F,F,F,F,F,F,F,F,F,F,F,F,F,F,F,F,F,F,F,F] rfl rfl (any_of HT_.out (by kernel_rfl)) (fun _ _ _ h => h) (Or.inr ⟨by rfl, rfl⟩) ?_ ?_
          rotate_left; simp only [Act.put, zA, zB, zC, i64_w, i32_w]; rfl
          refine pure_ (i := 21) (N := some 77) (v := undef) (a' := ?_) #[T,T,T,T,T,T,T,T,T,T,T,T,T,T,T,T,T,T,T,T,T,T,F,F,F,F,F,F,F,F,F,F,F,F,F,F,F,F,F,F,F,F,F,F] rfl rfl (any_of HT_.out (by kernel_rfl)) (fun _ _ _ h => h) (Or.inr ⟨by rfl, rfl⟩) ?_ ?_
          rotate_left; simp only [Act.put, zA, zB, zC, i64_w, i32_w]; rfl
          refine pure_ (i := 22) (N := some 78) (v := undef) (a' := ?_) #[T,T,T,T,T,T,T,T,T,T,T,T,T,T,T,T,T,T,T,T,T,T,T,F,F,F,F,F,F,F,F,F,F,F,F,F,F,F,F,F,F,F,F,F] rfl rfl (any_of HT_.out (by kernel_rfl)) (fun _ _ _ h => h) (Or.inr ⟨by rfl, rfl⟩) ?_ ?_
          rotate_left; simp only [Act.put, zA, zB, zC, i64_w, i32_w]; rfl
          refine pure_ (i := 23) (N := some 79) (v := undef) (a' := ?_) #[T,T,T,T,T,T,T,T,T,T,T,T,T,T,T,T,T,T,T,T,T,T,T,T,F,F,F,F,F,F,F,F,F,F,F,F,F,F,F,F,F,F,F,F] rfl rfl (any_of HT_.out (by kernel_rfl)) (fun _ _ _ h => h) (Or.inr ⟨by rfl, rfl⟩) ?_ ?_
          rotate_left; simp only [Act.put, zA, zB, zC, i64_w, i32_w]; rfl
          refine pure_ (i := 24) (N := some 80) (v := undef) (a' := ?_) #[T,T,T,T,T,T,T,T,T,T,T,T,T,T,T,T,T,T,T,T,T,T,T,T,T,F,F,F,F,F,F,F,F,F,F,F,F,F,F,F,F,F,F,F] rfl rfl (any_of HT_.out (by kernel_rfl)) (fun _ _ _ h => h) (Or.inr ⟨by rfl, rfl⟩) ?_ ?_
          rotate_left; simp only [Act.put, zA, zB, zC, i64_w, i32_w]; rfl
          refine pure_ (i := 25) (N := some 81) (v := undef) (a' := ?_) #[T,T,T,T,T,T,T,T,T,T,T,T,T,T,T,T,T,T,T,T,T,T,T,T,T,T,F,F,F,F,F,F,F,F,F,F,F,F,F,F,F,F,F,F] rfl rfl (any_of HT_.out (by kernel_rfl)) (fun _ _ _ h => h) (Or.inr ⟨by rfl, rfl⟩) ?_ ?_
          rotate_left; simp only [Act.put, zA, zB, zC, i64_w, i32_w]; rfl
          refine pure_ (i := 26) (N := some 82) (v := ?_) (a' := ?_) #[T,T,T,T,T,T,T,T,T,T,T,T,T,T,T,T,T,T,T,T,T,T,T,T,T,T,T,F,F,F,F,F,F,F,F,F,F,F,F,F,F,F,F,F] rfl rfl (any_of HT_.out (by kernel_rfl)) (fun _ _ _ h => h) (Or.inl ⟨by rfl, ?_⟩) ?_ ?_
          rotate_left; intro w'; go_simp; with_reducible rfl; rotate_left; simp only [Act.put, zA, zB, zC, i64_w, i32_w]; rfl
          refine pure_ (i := 27) (N := some 83) (v := ?_) (a' := ?_) #[T,T,T,T,T,T,T,T,T,T,T,T,T,T,T,T,T,T,T,T,T,T,T,T,T,T,T,T,F,F,F,F,F,F,F,F,F,F,F,F,F,F,F,F] rfl rfl (any_of HT_.out (by kernel_rfl)) (fun _ _ _ h => h) (Or.inl ⟨by rfl, ?_⟩) ?_ ?_
          rotate_left; intro w'; go_simp; with_reducible rfl; rotate_left; simp only [Act.put, zA, zB, zC, i64_w, i32_w]; rfl
          refine pure_ (i := 28) (N := some 84) (v := undef) (a' := ?_) #[T,T,T,T,T,T,T,T,T,T,T,T,T,T,T,T,T,T,T,T,T,T,T,T,T,T,T,T,T,F,F,F,F,F,F,F,F,F,F,F,F,F,F,F] rfl rfl (any_of HT_.out (by kernel_rfl)) (fun _ _ _ h => h) (Or.inr ⟨by rfl, rfl⟩) ?_ ?_
          rotate_left; simp only [Act.put, zA, zB, zC, i64_w, i32_w]; rfl
          refine pure_ (i := 29) (N := some 85) (v := undef) (a' := ?_) #[T,T,T,T,T,T,T,T,T,T,T,T,T,T,T,T,T,T,T,T,T,T,T,T,T,T,T,T,T,T,F,F,F,F,F,F,F,F,F,F,F,F,F,F] rfl rfl (any_of HT_.out (by kernel_rfl)) (fun _ _ _ h => h) (Or.inr ⟨by rfl, rfl⟩) ?_ ?_
          rotate_left; simp only [Act.put, zA, zB, zC, i64_w, i32_w]; rfl
          refine pure_ (i := 30) (N := some 86) (v := undef) (a' := ?_) #[T,T,T,T,T,T,T,T,T,T,T,T,T,T,T,T,T,T,T,T,T,T,T,T,T,T,T,T,T,T,T,F,F,F,F,F,F,F,F,F,F,F,F,F] rfl rfl (any_of HT_.out (by kernel_rfl)) (fun _ _ _ h => h) (Or.inr ⟨by rfl, rfl⟩) ?_ ?_
          rotate_left; simp only [Act.put, zA, zB, zC, i64_w, i32_w]; rfl
          refine pure_ (i := 31) (N := some 87) (v := undef) (a' := ?_) #[T,T,T,T,T,T,T,T,T,T,T,T,T,T,T,T,T,T,T,T,T,T,T,T,T,T,T,T,T,T,T,T,F,F,F,F,F,F,F,F,F,F,F,F] rfl rfl (any_of HT_.out (by kernel_rfl)) (fun _ _ _ h => h) (Or.inr ⟨by rfl, rfl⟩) ?_ ?_
          rotate_left; simp only [Act.put, zA, zB, zC, i64_w, i32_w]; rfl
          refine pure_ (i := 32) (N := some 88) (v := undef) (a' := ?_) #[T,T,T,T,T,T,T,T,T,T,T,T,T,T,T,T,T,T,T,T,T,T,T,T,T,T,T,T,T,T,T,T,T,F,F,F,F,F,F,F,F,F,F,F] rfl rfl (any_of HT_.out (by kernel_rfl)) (fun _ _ _ h => h) (Or.inr ⟨by rfl, rfl⟩) ?_ ?_
          rotate_left; simp only [Act.put, zA, zB, zC, i64_w, i32_w]; rfl
          refine pure_ (i := 33) (N := some 89) (v := ?_) (a' := ?_) #[T,T,T,T,T,T,T,T,T,T,T,T,T,T,T,T,T,T,T,T,T,T,T,T,T,T,T,T,T,T,T,T,T,T,F,F,F,F,F,F,F,F,F,F] rfl rfl (any_of HT_.out (by kernel_rfl)) (fun _ _ _ h => h) (Or.inl ⟨by rfl, ?_⟩) ?_ ?_
          rotate_left; intro w'; go_simp; with_reducible rfl; rotate_left; simp only [Act.put, zA, zB, zC, i64_w, i32_w]; rfl
          refine pure_ (i := 34) (N := some 90) (v := ?_) (a' := ?_) #[T,T,T,T,T,T,T,T,T,T,T,T,T,T,T,T,T,T,T,T,T,T,T,T,T,T,T,T,T,T,T,T,T,T,T,F,F,F,F,F,F,F,F,F] rfl rfl (any_of HT_.out (by kernel_rfl)) (fun _ _ _ h => h) (Or.inl ⟨by rfl, ?_⟩) ?_ ?_
          rotate_left; intro w'; go_simp; with_reducible rfl; rotate_left; simp only [Act.put, zA, zB, zC, i64_w, i32_w]; rfl
          refine pure_ (i := 35) (N := some 91) (v := undef) (a' := ?_) #[T,T,T,T,T,T,T,T,T,T,T,T,T,T,T,T,T,T,T,T,T,T,T,T,T,T,T,T,T,T,T,T,T,T,T,T,F,F,F,F,F,F,F,F] rfl rfl (any_of HT_.out (by kernel_rfl)) (fun _ _ _ h => h) (Or.inr ⟨by rfl, rfl⟩) ?_ ?_
          rotate_left; simp only [Act.put, zA, zB, zC, i64_w, i32_w]; rfl
          refine pure_ (i := 36) (N := some 92) (v := undef) (a' := ?_) #[T,T,T,T,T,T,T,T,T,T,T,T,T,T,T,T,T,T,T,T,T,T,T,T,T,T,T,T,T,T,T,T,T,T,T,T,T,F,F,F,F,F,F,F] rfl rfl (any_of HT_.out (by kernel_rfl)) (fun _ _ _ h => h) (Or.inr ⟨by rfl, rfl⟩) ?_ ?_
          rotate_left; simp only [Act.put, zA, zB, zC, i64_w, i32_w]; rfl
          refine pure_ (i := 37) (N := some 93) (v := undef) (a' := ?_) #[T,T,T,T,T,T,T,T,T,T,T,T,T,T,T,T,T,T,T,T,T,T,T,T,T,T,T,T,T,T,T,T,T,T,T,T,T,T,F,F,F,F,F,F] rfl rfl (any_of HT_.out (by kernel_rfl)) (fun _ _ _ h => h) (Or.inr ⟨by rfl, rfl⟩) ?_ ?_
          rotate_left; simp only [Act.put, zA, zB, zC, i64_w, i32_w]; rfl
          refine pure_ (i := 38) (N := some 94) (v := undef) (a' := ?_) #[T,T,T,T,T,T,T,T,T,T,T,T,T,T,T,T,T,T,T,T,T,T,T,T,T,T,T,T,T,T,T,T,T,T,T,T,T,T,T,F,F,F,F,F] rfl rfl (any_of HT_.out (by kernel_rfl)) (fun _ _ _ h => h) (Or.inr ⟨by rfl, rfl⟩) ?_ ?_
          rotate_left; simp only [Act.put, zA, zB, zC, i64_w, i32_w]; rfl
          refine pure_ (i := 39) (N := some 95) (v := undef) (a' := ?_) #[T,T,T,T,T,T,T,T,T,T,T,T,T,T,T,T,T,T,T,T,T,T,T,T,T,T,T,T,T,T,T,T,T,T,T,T,T,T,T,T,F,F,F,F] rfl rfl (any_of HT_.out (by kernel_rfl)) (fun _ _ _ h => h) (Or.inr ⟨by rfl, rfl⟩) ?_ ?_
          rotate_left; simp only [Act.put, zA, zB, zC, i64_w, i32_w]; rfl
          refine pure_ (i := 40) (N := some 96) (v := undef) (a' := ?_) #[T,T,T,T,T,T,T,T,T,T,T,T,T,T,T,T,T,T,T,T,T,T,T,T,T,T,T,T,T,T,T,T,T,T,T,T,T,T,T,T,T,F,F,F] rfl rfl (any_of HT_.out (by kernel_rfl)) (fun _ _ _ h => h) (Or.inr ⟨by rfl, rfl⟩) ?_ ?_
          rotate_left; simp only [Act.put, zA, zB, zC, i64_w, i32_w]; rfl
          refine pure_ (i := 41) (N := some 97) (v := undef) (a' := ?_) #[T,T,T,T,T,T,T,T,T,T,T,T,T,T,T,T,T,T,T,T,T,T,T,T,T,T,T,T,T,T,T,T,T,T,T,T,T,T,T,T,T,T,F,F] rfl rfl (any_of HT_.out (by kernel_rfl)) (fun _ _ _ h => h) (Or.inr ⟨by rfl, rfl⟩) ?_ ?_
          rotate_left; simp only [Act.put, zA, zB, zC, i64_w, i32_w]; rfl
          refine pure_ (i := 42) (N := some 98) (v := ?_) (a' := ?_) #[T,T,T,T,T,T,T,T,T,T,T,T,T,T,T,T,T,T,T,T,T,T,T,T,T,T,T,T,T,T,T,T,T,T,T,T,T,T,T,T,T,T,T,F] rfl rfl (any_of HT_.out (by kernel_rfl)) (fun _ _ _ h => h) (Or.inl ⟨by rfl, ?_⟩) ?_ ?_
          rotate_left; intro w'; go_simp; with_reducible rfl; rotate_left; simp only [Act.put, zA, zB, zC, i64_w, i32_w]; rfl
          refine pure_ (i := 43) (N := some 2) (v := ?_) (a' := ?_) #[T,T,T,T,T,T,T,T,T,T,T,T,T,T,T,T,T,T,T,T,T,T,T,T,T,T,T,T,T,T,T,T,T,T,T,T,T,T,T,T,T,T,T,T] rfl rfl (any_of HT_.out (by kernel_rfl)) (fun _ _ _ h => h) (Or.inl ⟨by rfl, ?_⟩) ?_ ?_
          rotate_left; intro w'; go_simp; with_reducible rfl; rotate_left; simp only [Act.put, zA, zB, zC, i64_w, i32_w]; rfl
          refine done_ (done_of HT_.out (by kernel_rfl)) ?_
          try go_wp2
          go_ret
          exact ⟨by first | rfl | (simp [errW_none, errW_some] <;> rfl) | (simp [*, errW_none, errW_some] <;> rfl), by repeat (first | (with_reducible first | exact HB.out | apply b5 | apply b4 | apply b6 | refine b7 ?_ GE182.out | refine b7 ?_ GE192.out | refine b7 ?_ GE199.out) | exact HB.out)⟩
        ·replace c33 := Bool.eq_false_iff.mpr c33
         subst c33
         have H1 : (some (t188 == t179 && (t189 == t180 && (t190 == t181)))) = some r := by rw [if_neg (show ¬ (false = true) by decide)] at H; exact H
         clear H
         have H := H1
         clear H1
         obtain rfl := Option.some.inj H
         have hnb135 := NB192_182.out
         have hnc135 := NB182_192.out
         have hcz136_0 : wc.cell? ⟨gb192, 0, none⟩ = some (.int .i64 t188) := (b8 BK192.out 0).trans rfl
         have hcz136_1 : wc.cell? ⟨gb192, 1, none⟩ = some (.int .i64 t189) := (b8 BK192.out 1).trans rfl
         have hcz136_2 : wc.cell? ⟨gb192, 2, none⟩ = some (.int .i64 t190) := (b8 BK192.out 2).trans rfl
         have hfz136_0 := blk_frozen BK192.out 0
         have hfz136_1 := blk_frozen BK192.out 1
         have hfz136_2 := blk_frozen BK192.out 2
         have hcz137_0 : wc.cell? ⟨gb182, 0, none⟩ = some (.int .i64 t179) := (b8 BK182.out 0).trans rfl
         have hcz137_1 : wc.cell? ⟨gb182, 1, none⟩ = some (.int .i64 t180) := (b8 BK182.out 1).trans rfl
         have hcz137_2 : wc.cell? ⟨gb182, 2, none⟩ = some (.int .i64 t181) := (b8 BK182.out 2).trans rfl
         have hfz137_0 := blk_frozen BK182.out 0
         have hfz137_1 := blk_frozen BK182.out 1
         have hfz137_2 := blk_frozen BK182.out 2
         go_wp2
         go_ret
         exact ⟨by first | rfl | (simp [errW_none, errW_some] <;> rfl) | (simp [*, errW_none, errW_some] <;> rfl), by repeat (first | (with_reducible first | exact HB.out | apply b5 | apply b4 | apply b6 | refine b7 ?_ GE182.out | refine b7 ?_ GE192.out) | exact HB.out)⟩
   ·rw [if_neg c7] at H
    exact absurd H (by simp)
  ·rw [if_neg c6] at H
   exact absurd H (by simp)

/-- THE ONE PURE STATEMENT of laws_FnAccounts: yours. -/
def laws_FnAccounts.Pure : Prop := ∀ (l0 : List Int), l0.length ≤ maxLen → l0.length * 1 ≤ 140737488351232 → (∀ x ∈ l0, (Lit.int .u8 x).wf = true) → ∃ k, laws_FnAccounts.f k l0 = some true
theorem laws_FnAccounts.walk (P : laws_FnAccounts.Pure) (a0 : Option Addr) (len0 cap0 : Nat) (z0 : List Int) (w : World) (w0 : (a0 = none ∧ len0 = 0 ∧ cap0 = 0 ∧ z0 = []) ∨ ∃ x, a0 = some x ∧ len0 ≤ cap0 ∧ cap0 ≤ maxLen ∧ z0.length = cap0 ∧ (∀ i, i < z0.length → w.cell? (x.add i) = some (.int .u8 (z0.getD i 0))) ∧ ∀ n ∈ z0, (Lit.int .u8 n).wf = true) (y0 : len0 * 1 ≤ 140737488351232) :
  Calls Try.prog 3 #[.slice a0 len0 cap0] w fun e w' => e = .returned (.bool true) ∧ Below w.heap.size w w' := by
 obtain ⟨l0, rfl, hr0, hm0, hw0, hc0⟩ := ReadsInt.ofRowC w0
 obtain ⟨k, h⟩ := P l0 hm0 y0 hw0
 refine (laws_FnAccounts.calls k _ _ l0 true w (Kd.C_of_reads (d := (0 : Int)) (h1 := fun _ => rfl) hr0) hc0 h).mono ?_
 rintro e w' ⟨rfl, hd⟩
 exact ⟨rfl, hd⟩

end Go.Proofs.Ytanllimeiofaaaa.PFnAccounts
