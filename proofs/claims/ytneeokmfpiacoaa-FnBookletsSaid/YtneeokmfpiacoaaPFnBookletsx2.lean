/- Written by a program of this session (a turned copy of the kit's printer): what each Go function answers, and that it does. -/
import Derived.Test.YtneeokmfpiacoaaPFnBookletsx0
import Derived.Test.YtneeokmfpiacoaaPFnBookletsx1
namespace Go.Proofs.Ytneeokmfpiacoaa.PFnBooklets
open Go.RowKit Go.Proofs.YtneeokmfpiacoaaW.PrintWords Go.Proofs.YtneeokmfpiacoaaW.PrintLast Go.Proofs.YtneeokmfpiacoaaW.PrintMore
attribute [local go_sem] Go.Proofs.Ytneeokmfpiacoaa.Cells.cell_set_at max2_int min2_int max_two min_two max_three min_three max_four min_four   -- for this text's walks alone
set_option linter.unusedVariables false
set_option linter.unusedSimpArgs false

/-! ### impl_Booklet: function 8 (a contract of this session's own) -/
/-- A page's number, 0 behind the last page. -/
def bookPage (a0 n : Int) : Int := if n > a0 then 0 else n
/-- The sheets from sheet s on, behind those that are there. -/
def impl_Booklet.l0 : Nat → Int → List (S36) → Int → Int → Option (List (S36))
  | 0, _, _, _, _ => none
  | k + 1, x0, x4, x2, x5 => if x5 < (wrap64 (Int.tdiv x2 4)) then (if x4.length < 4398046511104 then impl_Booklet.l0 k x0 (x4 ++ [(⟨bookPage x0 (wrap64 (x2 - (wrap64 (2 * x5)))), bookPage x0 (wrap64 ((wrap64 (2 * x5)) + 1)), bookPage x0 (wrap64 ((wrap64 (2 * x5)) + 2)), bookPage x0 (wrap64 ((wrap64 (x2 - (wrap64 (2 * x5)))) - 1))⟩ : S36)]) x2 (wrap64 (x5 + 1)) else none) else some x4
def impl_Booklet.f (k : Nat) (a0 : Int) : Option (List (S36)) := (impl_within.f a0 1 64).bind fun t => (if t = true then impl_Booklet.l0 k a0 [] (wrap64 ((wrap64 (Int.tdiv (wrap64 (a0 + 3)) 4)) * 4)) 0 else some [])
theorem impl_Booklet.mono_l : ∀ k, (∀ y0 y1 y2 y3, LeO (impl_Booklet.l0 k y0 y1 y2 y3) (impl_Booklet.l0 (k + 1) y0 y1 y2 y3))
  | 0 => fun _ _ _ _ r h => by simp [impl_Booklet.l0] at h
  | k + 1 => by
    have ih0 := impl_Booklet.mono_l k
    intro y0 y1 y2 y3
    unfold impl_Booklet.l0
    repeat' first
      | (with_reducible exact ih0 _ _ _ _)
      | (with_reducible exact LeO.refl _)
      | (with_reducible exact LeO.none _)
      | (with_reducible refine LeO.ite ?_ ?_)
      | exact ih0 _ _ _ _
      | exact LeO.none _
theorem impl_Booklet.mono : ∀ a0 k, LeO (impl_Booklet.f k a0) (impl_Booklet.f (k + 1) a0) := by
  intro a0 k
  have ih0 := impl_Booklet.mono_l k
  unfold impl_Booklet.f
  repeat' first
      | (with_reducible exact ih0 _ _ _ _)
      | (with_reducible exact LeO.refl _)
      | (with_reducible refine LeO.ite ?_ ?_)
      | (with_reducible refine LeO.bind ?_ (fun _ => ?_))
      | exact ih0 _ _ _ _
set_option maxHeartbeats 8000000 in
set_option maxRecDepth 100000 in
theorem bookPage1.calls (n a0 t : Int) (g : Nat) (w : World) (h : bookPage a0 n = t) (hg : w.cell? ⟨g, 0, none⟩ = some (.int .i64 a0)) :
    Calls Try.prog 16 #[.int .i64 n, .pointer (some ⟨g, 0, none⟩)] w fun e w' => e = .returned (.int .i64 t) ∧ Drawn0 w w' := by
  unfold bookPage at h
  by_cases c3 : n > a0
  · rw [if_pos c3] at h
    subst h
    have c3b0 : decide (a0 < n) = true := decide_eq_true c3
    clear c3
    go_enter Try.func16, Try.ntmps16
    go_wp2
    go_ret
    exact ⟨by first | rfl | (simp; done) | (simp [*]; done), by repeat (first | exact Drawn0.refl _ | apply Drawn0.step)⟩
  · rw [if_neg c3] at h
    subst h
    have c3b0 : decide (a0 < n) = false := decide_eq_false c3
    clear c3
    go_enter Try.func16, Try.ntmps16
    go_wp2
    go_ret
    exact ⟨by first | rfl | (simp; done) | (simp [*]; done), by repeat (first | exact Drawn0.refl _ | apply Drawn0.step)⟩
set_option maxHeartbeats 8000000 in
set_option maxRecDepth 100000 in
theorem impl_Booklet.calls (k : Nat) (a0 : Int) (r : List (S36)) (w : World) (h : impl_Booklet.f k a0 = some r) :
    Calls Try.prog 8 #[.int .i64 a0] w fun e w' => ∃ v0_ : Value, e = .returned (v0_) ∧ Kd.R k36 36 w' w.heap.size (fun _ => True) v0_ r ∧ Below w.heap.size w w' := by
  have hu36 := Try.underlying36
  have HB := Aside0.mk (Below.refl w.heap.size w)
  have H := h
  rw [impl_Booklet.f] at H
  clear h
  replace H := Option.bind_eq_some_iff.mp H
  obtain ⟨t, A20, H⟩ := H
  have A2 := Aside0.mk A20
  clear A20
  by_cases c3 : t = true
  · subst c3
    have H' := Aside0.mk (show impl_Booklet.l0 k a0 [] (wrap64 ((wrap64 (Int.tdiv (wrap64 (a0 + 3)) 4)) * 4)) 0 = some r from by rw [if_pos rfl] at H; exact H)
    clear H
    go_enter Try.func8, Try.ntmps8
    go_wp2_with (go_at_call 15; refine (impl_within.calls a0 1 64 true _ A2.out).mono ?_; rintro e w' ⟨rfl, ⟨nd, rfl⟩⟩)
    go_loopg [5, 6] k (fun kq v5 v6 w' => ∃ (x : List (S36)) (s : Int), v6 = .int .i64 s ∧ Aside0 (impl_Booklet.l0 kq a0 x (wrap64 ((wrap64 (Int.tdiv (wrap64 (a0 + 3)) 4)) * 4)) s = some r) ∧ Aside0 (kq ≤ k) ∧ Aside0 (Kd.R k36 36 w' w.heap.size (fun _ => True) v5 x) ∧ Aside0 (Below w.heap.size w w') ∧ Aside0 (w'.heap[w.heap.size]? = some (.cells #[.int .i64 a0] 3 (0, 0))))
    case atStart => exact ⟨[], 0, (by first | rfl | (simp; done)), H', ⟨Nat.le_refl _⟩, ⟨Kd.R_nil _ _ _ _ _⟩, ⟨by repeat (first | (with_reducible first | exact HB.out | apply below_alloc | apply pw_below_drewN | apply below_drew1) | exact HB.out)⟩, ⟨by first | exact blk_new _ _ | exact blk_drewN (blk_new _ _) _⟩⟩
    case round =>
      clear H' HB
      obtain ⟨x, s, rfl, HA, HK1, HO, HB, HG⟩ := hrel
      cases gk with
      | zero => exact absurd HA.out (by simp [impl_Booklet.l0])
      | succ k1 =>
        have H := HA.out
        clear HA
        simp only [impl_Booklet.l0] at H
        by_cases c6 : s < (wrap64 (Int.tdiv (wrap64 ((wrap64 (Int.tdiv (wrap64 (a0 + 3)) 4)) * 4)) 4))
        · rw [if_pos c6] at H
          have c6b0 : decide (s < (wrap64 (Int.tdiv (wrap64 ((wrap64 (Int.tdiv (wrap64 (a0 + 3)) 4)) * 4)) 4))) = true := decide_eq_true c6
          clear c6
          by_cases c11 : x.length < 4398046511104
          · rw [if_pos c11] at H
            have LM := Aside0.mk c11
            clear c11
            obtain ⟨t1, h1⟩ : ∃ t, bookPage a0 (wrap64 ((wrap64 ((wrap64 (Int.tdiv (wrap64 (a0 + 3)) 4)) * 4)) - (wrap64 (2 * s)))) = t := ⟨_, rfl⟩
            obtain ⟨t2, h2⟩ : ∃ t, bookPage a0 (wrap64 ((wrap64 (2 * s)) + 1)) = t := ⟨_, rfl⟩
            obtain ⟨t3, h3⟩ : ∃ t, bookPage a0 (wrap64 ((wrap64 (2 * s)) + 2)) = t := ⟨_, rfl⟩
            obtain ⟨t4, h4⟩ : ∃ t, bookPage a0 (wrap64 ((wrap64 ((wrap64 ((wrap64 (Int.tdiv (wrap64 (a0 + 3)) 4)) * 4)) - (wrap64 (2 * s)))) - 1)) = t := ⟨_, rfl⟩
            rw [h1, h2, h3, h4] at H
            have Q1 := Aside0.mk h1
            have Q2 := Aside0.mk h2
            have Q3 := Aside0.mk h3
            have Q4 := Aside0.mk h4
            clear h1 h2 h3 h4
            obtain ⟨y, hy⟩ : ∃ y_ : List (S36), y_ = x ++ [(⟨t1, t2, t3, t4⟩ : S36)] := ⟨_, rfl⟩
            rw [← hy] at H
            have Ny := Aside0.mk hy
            clear hy
            have H' := Aside0.mk H
            clear H
            go_wp2_with (first | (go_at_call 16; (with_reducible refine (bookPage1.calls _ a0 t1 _ _ Q1.out ?hc).mono ?_); (case hc => exact (blk_cell HG.out 0).trans rfl); rintro e w' ⟨rfl, ⟨nd, rfl⟩⟩) | (go_at_call 16; (with_reducible refine (bookPage1.calls _ a0 t2 _ _ Q2.out ?hc).mono ?_); (case hc => exact (blk_cell HG.out 0).trans rfl); rintro e w' ⟨rfl, ⟨nd, rfl⟩⟩) | (go_at_call 16; (with_reducible refine (bookPage1.calls _ a0 t3 _ _ Q3.out ?hc).mono ?_); (case hc => exact (blk_cell HG.out 0).trans rfl); rintro e w' ⟨rfl, ⟨nd, rfl⟩⟩) | (go_at_call 16; (with_reducible refine (bookPage1.calls _ a0 t4 _ _ Q4.out ?hc).mono ?_); (case hc => exact (blk_cell HG.out 0).trans rfl); rintro e w' ⟨rfl, ⟨nd, rfl⟩⟩) | ((with_reducible refine gate_builtin (b := .append) (xs := #[.tmp 21, .tmp 46]) rfl ?_); at_builtin; refine Kd.R_append k36 (w0 := w) w.heap.size rfl (.tmp 21) (.tmp 46) 27 36 (.agg #[(.int .i64 0), (.int .i64 0), (.int .i64 0), (.int .i64 0)]) 32 rfl Try.underlying27 info36 rfl (by decide) (by omega) u5 x (⟨t1, t2, t3, t4⟩ : S36) [.int .i64 t1, .int .i64 t2, .int .i64 t3, .int .i64 t4] (fun _ => True) (fun _ => False) rfl rfl ?aP (fun _ hk => hk.elim) ?aF ?aO ?aB ?aS ?aL ?_; (case aP => exact k36_mkM _ _ _ (⟨t1, t2, t3, t4⟩ : S36)); (case aB => exact (by repeat (first | (with_reducible first | exact HB.out | apply below_alloc | apply pw_below_drewN | apply below_drew1) | exact HB.out))); (case aF => exact (fun _ _ => trivial)); (case aO => exact (by (with_reducible repeat (first | apply Kd.R_alloc | apply Kd.R_drewN | apply Kd.R_drew)); exact HO.out)); (case aS => exact (below_size (by repeat (first | (with_reducible first | exact HB.out | apply below_alloc | apply pw_below_drewN | apply below_drew1) | exact HB.out)))); (case aL => have := LM.out; omega); intro v110 w12 ho hb hg hat; rw [← Ny.out] at ho; have n0_ := Aside0.mk hb; have n1_ := Aside0.mk ho; have n2_ := Aside0.mk (blk_grown (g := w.heap.size) (o := .cells #[.int .i64 a0] 3 (0, 0)) (by (with_reducible repeat (first | refine blk_drewN ?_ _ | refine blk_drew ?_ | refine blk_alloc ?_ _)); exact HG.out) hg (Kd.R_ne HO.out HG.out (by decide))); clear HB; clear HO; clear HG; have HB := n0_; have HO := n1_; have HG := n2_; clear n0_ n1_ n2_; clear ho hb hg hat))
            go_roundg k1
            case measure => have := HK1.out; omega
            case rel => exact ⟨y, (wrap64 (s + 1)), (by first | rfl | (simp; done) | (simp [*]; done)), H', ⟨by have := HK1.out; omega⟩, ⟨by (with_reducible repeat (first | apply Kd.R_alloc | apply Kd.R_drewN | apply Kd.R_drew)); exact HO.out⟩, ⟨by repeat (first | (with_reducible first | exact HB.out | apply below_alloc | apply pw_below_drewN | apply below_drew1) | exact HB.out)⟩, HG⟩
          · rw [if_neg c11] at H
            exact absurd H (by simp)
        · rw [if_neg c6] at H
          have c6b0 : decide (s < (wrap64 (Int.tdiv (wrap64 ((wrap64 (Int.tdiv (wrap64 (a0 + 3)) 4)) * 4)) 4))) = false := decide_eq_false c6
          clear c6
          obtain rfl := Option.some.inj H
          go_wp2
          go_ret
          exact ⟨_, by first | rfl | (simp; done), by (with_reducible repeat (first | apply Kd.R_alloc | apply Kd.R_drewN | apply Kd.R_drew)); exact HO.out, by repeat (first | (with_reducible first | exact HB.out | apply below_alloc | apply pw_below_drewN | apply below_drew1) | exact HB.out)⟩
  · replace c3 := Bool.eq_false_iff.mpr c3
    subst c3
    rw [if_neg (by decide)] at H
    obtain rfl := Option.some.inj H
    clear H
    go_enter Try.func8, Try.ntmps8
    go_wp2_with (go_at_call 15; refine (impl_within.calls a0 1 64 false _ A2.out).mono ?_; rintro e w' ⟨rfl, ⟨nd, rfl⟩⟩)
    go_ret
    exact ⟨_, by first | rfl | (simp; done), Kd.R_nil _ _ _ _ _, by repeat (first | (with_reducible first | exact HB.out | apply below_alloc | apply pw_below_drewN | apply below_drew1) | exact HB.out)⟩

/-! ### laws_FnBooklets: function 3 -/
mutual
def laws_FnBooklets.j0 : Nat → Int → List Int → Bool → Option (Bool)
  | 0, _, _, _ => none
  | k + 1, x4, x5, x36 => if x36 = true then (some false) else (laws_FnBooklets.l0 k x4 x5 0)
def laws_FnBooklets.l0 : Nat → Int → List Int → Int → Option (Bool)
  | 0, _, _, _ => none
  | k + 1, x4, x5, x6 => if x6 < (x5.length : Int) then (if x6 < x4 then (if 0 ≤ x6 then (if (rd x5 x6) = (wrap64 (x6 + 1)) then (laws_FnBooklets.l0 k x4 x5 (wrap64 (x6 + 1))) else (some false)) else (none)) else (if 0 ≤ x6 then (if (rd x5 x6) = 0 then (laws_FnBooklets.l0 k x4 x5 (wrap64 (x6 + 1))) else (some false)) else (none))) else (some true)
end
def laws_FnBooklets.f (k : Nat) (l0 : List Int) : Option (Bool) := (laws_big.f l0).bind fun t149 => (if t149 = true then (some true) else ((spec_DrawPlaces.f k l0).bind fun t150 => (if 0 < (t150.length : Int) then ((impl_Booklet.f k (wrap64 (1 + (Int.tmod (rd t150 0) 64)))).bind fun t154 => ((impl_ReadBooklet.f k t154).bind fun t157 => (if ((t157.length : Int) % 4) = 0 then (if (t157.length : Int) < (wrap64 (1 + (Int.tmod (rd t150 0) 64))) then (laws_FnBooklets.j0 k (wrap64 (1 + (Int.tmod (rd t150 0) 64))) t157 true) else (laws_FnBooklets.j0 k (wrap64 (1 + (Int.tmod (rd t150 0) 64))) t157 (decide ((t157.length : Int) ≥ (wrap64 ((wrap64 (1 + (Int.tmod (rd t150 0) 64))) + 4)))))) else (laws_FnBooklets.j0 k (wrap64 (1 + (Int.tmod (rd t150 0) 64))) t157 true)))) else (none))))
theorem laws_FnBooklets.mono_l : ∀ k, (∀ y0 y1 y2, LeO (laws_FnBooklets.j0 k y0 y1 y2) (laws_FnBooklets.j0 (k + 1) y0 y1 y2)) ∧ (∀ y0 y1 y2, LeO (laws_FnBooklets.l0 k y0 y1 y2) (laws_FnBooklets.l0 (k + 1) y0 y1 y2))
  | 0 => ⟨fun _ _ _ r h => by simp [laws_FnBooklets.j0] at h, fun _ _ _ r h => by simp [laws_FnBooklets.l0] at h⟩
  | k + 1 => by
    obtain ⟨ih0, ih1⟩ := laws_FnBooklets.mono_l k
    refine ⟨?_, ?_⟩
    · intro y0 y1 y2
      unfold laws_FnBooklets.j0
      repeat' first
      | (with_reducible exact ih0 _ _ _)
      | (with_reducible exact ih1 _ _ _)
      | (with_reducible exact impl_Booklet.mono _ _)
      | (with_reducible exact impl_ReadBooklet.mono _ _)
      | (with_reducible exact spec_DrawPlaces.mono _ _)
      | (with_reducible exact LeO.refl _)
      | (with_reducible exact LeO.none _)
      | (with_reducible refine LeO.ite ?_ ?_)
      | (with_reducible refine LeO.bind ?_ (fun _ => ?_))
      | exact ih0 _ _ _
      | exact ih1 _ _ _
      | exact impl_Booklet.mono _ _
      | exact impl_ReadBooklet.mono _ _
      | exact spec_DrawPlaces.mono _ _
      | exact LeO.none _
      | refine LeO.ite ?_ ?_
      | refine LeO.bind ?_ (fun _ => ?_)
    · intro y0 y1 y2
      unfold laws_FnBooklets.l0
      repeat' first
      | (with_reducible exact ih0 _ _ _)
      | (with_reducible exact ih1 _ _ _)
      | (with_reducible exact impl_Booklet.mono _ _)
      | (with_reducible exact impl_ReadBooklet.mono _ _)
      | (with_reducible exact spec_DrawPlaces.mono _ _)
      | (with_reducible exact LeO.refl _)
      | (with_reducible exact LeO.none _)
      | (with_reducible refine LeO.ite ?_ ?_)
      | (with_reducible refine LeO.bind ?_ (fun _ => ?_))
      | exact ih0 _ _ _
      | exact ih1 _ _ _
      | exact impl_Booklet.mono _ _
      | exact impl_ReadBooklet.mono _ _
      | exact spec_DrawPlaces.mono _ _
      | exact LeO.none _
      | refine LeO.ite ?_ ?_
      | refine LeO.bind ?_ (fun _ => ?_)
theorem laws_FnBooklets.mono : ∀ a0 k, LeO (laws_FnBooklets.f k a0) (laws_FnBooklets.f (k + 1) a0) := by
  intro a0 k
  obtain ⟨ih0, ih1⟩ := laws_FnBooklets.mono_l k
  unfold laws_FnBooklets.f
  repeat' first
      | (with_reducible exact ih0 _ _ _)
      | (with_reducible exact ih1 _ _ _)
      | (with_reducible exact impl_Booklet.mono _ _)
      | (with_reducible exact impl_ReadBooklet.mono _ _)
      | (with_reducible exact spec_DrawPlaces.mono _ _)
      | (with_reducible exact LeO.refl _)
      | (with_reducible exact LeO.none _)
      | (with_reducible refine LeO.ite ?_ ?_)
      | (with_reducible refine LeO.bind ?_ (fun _ => ?_))
      | exact ih0 _ _ _
      | exact ih1 _ _ _
      | exact impl_Booklet.mono _ _
      | exact impl_ReadBooklet.mono _ _
      | exact spec_DrawPlaces.mono _ _
      | exact LeO.none _
      | refine LeO.ite ?_ ?_
      | refine LeO.bind ?_ (fun _ => ?_)
set_option maxHeartbeats 8000000 in
set_option maxRecDepth 100000 in
theorem laws_FnBooklets.calls (k : Nat) (A0 : Option Addr) (c0 : Nat) (l0 : List Int) (r : Bool) (w : World) (hr0 : Kd.C (Kd.int .u8) w A0 l0.length l0) (hc0 : l0.length ≤ c0) (h : laws_FnBooklets.f k l0 = some r) :
    Calls Try.prog 3 #[.slice A0 l0.length c0] w fun e w' => e = .returned (.bool r) ∧ Below w.heap.size w w' := by
  have HR0 := Aside0.mk hr0
  have HC0 := Aside0.mk hc0
  clear hr0 hc0
  have HB := Aside0.mk (Below.refl w.heap.size w)
  have H : ((laws_big.f l0).bind fun t149 => (if t149 = true then (some true) else ((spec_DrawPlaces.f k l0).bind fun t150 => (if 0 < (t150.length : Int) then ((impl_Booklet.f k (wrap64 (1 + (Int.tmod (rd t150 0) 64)))).bind fun t154 => ((impl_ReadBooklet.f k t154).bind fun t157 => (if ((t157.length : Int) % 4) = 0 then (if (t157.length : Int) < (wrap64 (1 + (Int.tmod (rd t150 0) 64))) then (laws_FnBooklets.j0 k (wrap64 (1 + (Int.tmod (rd t150 0) 64))) t157 true) else (laws_FnBooklets.j0 k (wrap64 (1 + (Int.tmod (rd t150 0) 64))) t157 (decide ((t157.length : Int) ≥ (wrap64 ((wrap64 (1 + (Int.tmod (rd t150 0) 64))) + 4)))))) else (laws_FnBooklets.j0 k (wrap64 (1 + (Int.tmod (rd t150 0) 64))) t157 true)))) else (none))))) = some r := h
  clear h
  replace H := Option.bind_eq_some_iff.mp H
  obtain ⟨t149, A20, H⟩ := H
  replace H : (if t149 = true then (some true) else ((spec_DrawPlaces.f k l0).bind fun t150 => (if 0 < (t150.length : Int) then ((impl_Booklet.f k (wrap64 (1 + (Int.tmod (rd t150 0) 64)))).bind fun t154 => ((impl_ReadBooklet.f k t154).bind fun t157 => (if ((t157.length : Int) % 4) = 0 then (if (t157.length : Int) < (wrap64 (1 + (Int.tmod (rd t150 0) 64))) then (laws_FnBooklets.j0 k (wrap64 (1 + (Int.tmod (rd t150 0) 64))) t157 true) else (laws_FnBooklets.j0 k (wrap64 (1 + (Int.tmod (rd t150 0) 64))) t157 (decide ((t157.length : Int) ≥ (wrap64 ((wrap64 (1 + (Int.tmod (rd t150 0) 64))) + 4)))))) else (laws_FnBooklets.j0 k (wrap64 (1 + (Int.tmod (rd t150 0) 64))) t157 true)))) else (none)))) = some r := H
  have A2 := Aside0.mk A20
  clear A20
  by_cases c3 : t149 = true
  · subst c3
    have H1 : (some true) = some r := by rw [if_pos rfl] at H; exact H
    clear H
    have H := H1
    clear H1
    obtain rfl := Option.some.inj H
    go_enter Try.func3, Try.ntmps3
    go_wp2_with (first | ((with_reducible refine gate_callee (f := 5) rfl ?_); refine goesL_ (some 9) rfl rfl Try.func5 (by kernel_rfl) rfl #[.slice A0 l0.length c0] rfl (by (try simp only [List.map_toArray, List.map_cons, List.map_nil]); first | done | rfl | (simp only [List.length_drop, List.length_take]; rfl)) ?_; (with_reducible refine (laws_big.calls _ _ l0 true _ ?side1 ?side2 A2.out).mono ?_); (case side1 => repeat (first | exact HR0.out | (with_reducible refine Kd.C_alloc ?_ _) | (with_reducible refine Kd.C_drewN ?_ _) | (with_reducible refine Kd.C_drew ?_))); (case side2 => exact HC0.out); rintro e w' ⟨rfl, ⟨nd, rfl⟩⟩; refine ⟨_, rfl, ?_⟩))
    go_ret
    exact ⟨by first | rfl | (simp [errW_none, errW_some] <;> rfl) | (simp [*, errW_none, errW_some] <;> rfl), by repeat (first | (with_reducible first | exact HB.out | apply below_alloc | apply pw_below_drewN | apply below_drew1) | exact HB.out)⟩
  · replace c3 := Bool.eq_false_iff.mpr c3
    subst c3
    have H1 : ((spec_DrawPlaces.f k l0).bind fun t150 => (if 0 < (t150.length : Int) then ((impl_Booklet.f k (wrap64 (1 + (Int.tmod (rd t150 0) 64)))).bind fun t154 => ((impl_ReadBooklet.f k t154).bind fun t157 => (if ((t157.length : Int) % 4) = 0 then (if (t157.length : Int) < (wrap64 (1 + (Int.tmod (rd t150 0) 64))) then (laws_FnBooklets.j0 k (wrap64 (1 + (Int.tmod (rd t150 0) 64))) t157 true) else (laws_FnBooklets.j0 k (wrap64 (1 + (Int.tmod (rd t150 0) 64))) t157 (decide ((t157.length : Int) ≥ (wrap64 ((wrap64 (1 + (Int.tmod (rd t150 0) 64))) + 4)))))) else (laws_FnBooklets.j0 k (wrap64 (1 + (Int.tmod (rd t150 0) 64))) t157 true)))) else (none))) = some r := by rw [if_neg (show ¬ (false = true) by decide)] at H; exact H
    clear H
    have H := H1
    clear H1
    replace H := Option.bind_eq_some_iff.mp H
    obtain ⟨t150, A40, H⟩ := H
    replace H : (if 0 < (t150.length : Int) then ((impl_Booklet.f k (wrap64 (1 + (Int.tmod (rd t150 0) 64)))).bind fun t154 => ((impl_ReadBooklet.f k t154).bind fun t157 => (if ((t157.length : Int) % 4) = 0 then (if (t157.length : Int) < (wrap64 (1 + (Int.tmod (rd t150 0) 64))) then (laws_FnBooklets.j0 k (wrap64 (1 + (Int.tmod (rd t150 0) 64))) t157 true) else (laws_FnBooklets.j0 k (wrap64 (1 + (Int.tmod (rd t150 0) 64))) t157 (decide ((t157.length : Int) ≥ (wrap64 ((wrap64 (1 + (Int.tmod (rd t150 0) 64))) + 4)))))) else (laws_FnBooklets.j0 k (wrap64 (1 + (Int.tmod (rd t150 0) 64))) t157 true)))) else (none)) = some r := H
    have A4 := Aside0.mk A40
    clear A40
    by_cases c5 : 0 < (t150.length : Int)
    · rw [if_pos c5] at H
      have c5b0 : decide (0 < (t150.length : Int)) = true := decide_eq_true c5
      have c5b1 : decide (0 < t150.length) = true := decide_eq_true (by omega)
      clear c5
      replace H := Option.bind_eq_some_iff.mp H
      obtain ⟨t154, A60, H⟩ := H
      replace H : ((impl_ReadBooklet.f k t154).bind fun t157 => (if ((t157.length : Int) % 4) = 0 then (if (t157.length : Int) < (wrap64 (1 + (Int.tmod (rd t150 0) 64))) then (laws_FnBooklets.j0 k (wrap64 (1 + (Int.tmod (rd t150 0) 64))) t157 true) else (laws_FnBooklets.j0 k (wrap64 (1 + (Int.tmod (rd t150 0) 64))) t157 (decide ((t157.length : Int) ≥ (wrap64 ((wrap64 (1 + (Int.tmod (rd t150 0) 64))) + 4)))))) else (laws_FnBooklets.j0 k (wrap64 (1 + (Int.tmod (rd t150 0) 64))) t157 true))) = some r := H
      have A6 := Aside0.mk A60
      clear A60
      replace H := Option.bind_eq_some_iff.mp H
      obtain ⟨t157, A70, H⟩ := H
      replace H : (if ((t157.length : Int) % 4) = 0 then (if (t157.length : Int) < (wrap64 (1 + (Int.tmod (rd t150 0) 64))) then (laws_FnBooklets.j0 k (wrap64 (1 + (Int.tmod (rd t150 0) 64))) t157 true) else (laws_FnBooklets.j0 k (wrap64 (1 + (Int.tmod (rd t150 0) 64))) t157 (decide ((t157.length : Int) ≥ (wrap64 ((wrap64 (1 + (Int.tmod (rd t150 0) 64))) + 4)))))) else (laws_FnBooklets.j0 k (wrap64 (1 + (Int.tmod (rd t150 0) 64))) t157 true)) = some r := H
      have A7 := Aside0.mk A70
      clear A70
      have HC8 := Aside0.mk H
      clear H
      go_enter Try.func3, Try.ntmps3
      go_upto_region 6 with (first | ((with_reducible refine gate_callee (f := 5) rfl ?_); refine goesL_ (some 9) rfl rfl Try.func5 (by kernel_rfl) rfl #[.slice A0 l0.length c0] rfl (by (try simp only [List.map_toArray, List.map_cons, List.map_nil]); first | done | rfl | (simp only [List.length_drop, List.length_take]; rfl)) ?_; (with_reducible refine (laws_big.calls _ _ l0 false _ ?side1 ?side2 A2.out).mono ?_); (case side1 => repeat (first | exact HR0.out | (with_reducible refine Kd.C_alloc ?_ _) | (with_reducible refine Kd.C_drewN ?_ _) | (with_reducible refine Kd.C_drew ?_))); (case side2 => exact HC0.out); rintro e w' ⟨rfl, ⟨nd, rfl⟩⟩; refine ⟨_, rfl, ?_⟩) | ((with_reducible refine gate_callee (f := 6) rfl ?_); refine goesL_ (some 11) rfl rfl Try.func6 (by kernel_rfl) rfl #[.slice A0 l0.length c0] rfl (by (try simp only [List.map_toArray, List.map_cons, List.map_nil]); first | done | rfl | (simp only [List.length_drop, List.length_take]; rfl)) ?_; (with_reducible refine (spec_DrawPlaces.calls k _ _ l0 t150 _ ?side1 ?side2 A4.out).mono ?_); (case side1 => repeat (first | exact HR0.out | (with_reducible refine Kd.C_alloc ?_ _) | (with_reducible refine Kd.C_drewN ?_ _) | (with_reducible refine Kd.C_drew ?_))); (case side2 => exact HC0.out); rintro e w9 ⟨v151, rfl, ho0, hb⟩; refine ⟨_, rfl, ?_⟩; have n0_ := Aside0.mk (Kd.R_lower ho0 (below_size (by repeat (first | (with_reducible first | exact HB.out | apply below_alloc | apply pw_below_drewN | apply below_drew1) | exact HB.out)))); have n1_ := Aside0.mk (below_step (by repeat (first | (with_reducible first | exact HB.out | apply below_alloc | apply pw_below_drewN | apply below_drew1) | exact HB.out)) hb); clear HB; have HO152 := n0_; have HB := n1_; clear n0_ n1_; (try clear hb); (try clear hb2); (try clear hk); (try clear hi); (try clear ho0); obtain ⟨Ao10, co10, eo10⟩ := Kd.R_slice HO152.out; subst eo10; have p153 : 0 ≤ (0 : Int) := (by omega); have q153 : 0 < (t150.length : Int) := of_decide_eq_true (by first | (with_reducible assumption) | assumption); obtain ⟨ad153, e153, hx153_0⟩ := Kd.at_int (Kd.R_reads' HO152.out).2.2 0 p153 q153; cases e153; have qi153 : (0 < t150.length) = True := eq_true (by omega); (try rw [show ((0 : Int)).toNat = 0 from rfl] at hx153_0); (try rw [Addr.add_zero'] at hx153_0); replace p153 := eq_true p153; replace q153 := eq_true q153) | ((with_reducible refine gate_callee (f := 8) rfl ?_); refine goesL_ (some 18) rfl rfl Try.func8 (by kernel_rfl) rfl #[.int .i64 (wrap64 (1 + (Int.tmod (rd t150 0) 64)))] rfl (by (try simp only [List.map_toArray, List.map_cons, List.map_nil]); first | done | rfl | (simp only [List.length_drop, List.length_take]; rfl)) ?_; (with_reducible refine (impl_Booklet.calls k (wrap64 (1 + (Int.tmod (rd t150 0) 64))) t154 _ A6.out).mono ?_); rintro e w11 ⟨v155, rfl, ho0, hb⟩; refine ⟨_, rfl, ?_⟩; have n0_ := Aside0.mk (Kd.R_below (by (with_reducible repeat (first | apply Kd.R_alloc | apply Kd.R_drewN | apply Kd.R_drew)); exact HO152.out) hb); have n1_ := Aside0.mk (Kd.R_lower ho0 (below_size (by repeat (first | (with_reducible first | exact HB.out | apply below_alloc | apply pw_below_drewN | apply below_drew1) | exact HB.out)))); have n2_ := Aside0.mk (below_step (by repeat (first | (with_reducible first | exact HB.out | apply below_alloc | apply pw_below_drewN | apply below_drew1) | exact HB.out)) hb); clear HO152; clear HB; have HO152 := n0_; have HO156 := n1_; have HB := n2_; clear n0_ n1_ n2_; (try clear hb); (try clear hb2); (try clear hk); (try clear hi); (try clear ho0); obtain ⟨Ao12, co12, eo12⟩ := Kd.R_slice HO156.out; subst eo12) | ((with_reducible refine gate_callee (f := 7) rfl ?_); refine goesL_ (some 19) rfl rfl Try.func7 (by kernel_rfl) rfl #[.slice Ao12 t154.length co12] rfl (by (try simp only [List.map_toArray, List.map_cons, List.map_nil]); first | done | rfl | (simp only [List.length_drop, List.length_take]; rfl)) ?_; (with_reducible refine (impl_ReadBooklet.calls k _ _ t154 t157 _ ?side1 ?side2 A7.out).mono ?_); (case side1 => repeat (first | exact (Kd.R_reads' HO156.out).2.2 | (with_reducible refine Kd.C_alloc ?_ _) | (with_reducible refine Kd.C_drewN ?_ _) | (with_reducible refine Kd.C_drew ?_))); (case side2 => exact (Kd.R_reads' HO156.out).2.1); rintro e w13 ⟨v158, rfl, ho0, hb⟩; refine ⟨_, rfl, ?_⟩; have n0_ := Aside0.mk (Kd.R_elder' (by (with_reducible repeat (first | apply Kd.R_alloc | apply Kd.R_drewN | apply Kd.R_drew)); exact HO152.out) (Kd.R_base ho0) hb); have n1_ := Aside0.mk (Kd.R_below (by (with_reducible repeat (first | apply Kd.R_alloc | apply Kd.R_drewN | apply Kd.R_drew)); exact HO156.out) hb); have n2_ := Aside0.mk (Kd.R_lower (Kd.R_new' ho0 (Kd.R_lt (by (with_reducible repeat (first | apply Kd.R_alloc | apply Kd.R_drewN | apply Kd.R_drew)); exact HO152.out))) (below_size (by repeat (first | (with_reducible first | exact HB.out | apply below_alloc | apply pw_below_drewN | apply below_drew1) | exact HB.out)))); have n3_ := Aside0.mk (below_step (by repeat (first | (with_reducible first | exact HB.out | apply below_alloc | apply pw_below_drewN | apply below_drew1) | exact HB.out)) hb); clear HO152; clear HO156; clear HB; have HO152 := n0_; have HO156 := n1_; have HO159 := n2_; have HB := n3_; clear n0_ n1_ n2_ n3_; (try clear hb); (try clear hb2); (try clear hk); (try clear hi); (try clear ho0)))
      (try simp only [Act.put, List.setIfInBounds_toArray, List.set_cons_zero, List.set_cons_succ])
      go_cut [36] (fun v36 wc => ∃ (kq : Nat) (x36_7 : Bool), v36 = .bool x36_7 ∧ Aside0 (laws_FnBooklets.j0 kq (wrap64 (1 + (Int.tmod (rd t150 0) 64))) t157 x36_7 = some r) ∧ Aside0 (kq ≤ k) ∧ Aside0 (Kd.R (Kd.int .i64) 3 wc w.heap.size (fun _ => True) v158 t157) ∧ Aside0 (Below w.heap.size w wc))
      case first =>
        have H := HC8.out
        clear HC8
        by_cases c14 : ((t157.length : Int) % 4) = 0
        · rw [if_pos c14] at H
          have c14b0 : (((t157.length : Int) % 4) == 0) = true := beq_iff_eq.mpr c14
          have c14b1 : (((t157.length : Int) % 4) != 0) = false := bne_eq_false_iff_eq.mpr c14
          clear c14
          (first | rw [c14b0] | (simp only [i64_w, i32_w]; rw [c14b0]) | skip)
          by_cases c15 : (t157.length : Int) < (wrap64 (1 + (Int.tmod (rd t150 0) 64)))
          · rw [if_pos c15] at H
            have c15b0 : decide ((t157.length : Int) < (wrap64 (1 + (Int.tmod (rd t150 0) 64)))) = true := decide_eq_true c15
            clear c15
            have H' := Aside0.mk H
            clear H
            obtain ⟨Ao16, co16, eo16⟩ := Kd.R_slice HO159.out
            subst eo16
            go_wp2
            go_meet
            case rel => exact ⟨_, (true), (by first | rfl | (simp; done) | (simp [*]; done)), H', ⟨by first | omega | exact Nat.le_refl _⟩, ⟨by (with_reducible repeat (first | apply Kd.R_alloc | apply Kd.R_drewN | apply Kd.R_drew)); exact Kd.R_mono HO159.out (fun _ hk => trivial)⟩, ⟨by repeat (first | (with_reducible first | exact HB.out | apply below_alloc | apply pw_below_drewN | apply below_drew1) | exact HB.out)⟩⟩
          · rw [if_neg c15] at H
            have c15b0 : decide ((t157.length : Int) < (wrap64 (1 + (Int.tmod (rd t150 0) 64)))) = false := decide_eq_false c15
            clear c15
            have H' := Aside0.mk H
            clear H
            obtain ⟨Ao17, co17, eo17⟩ := Kd.R_slice HO159.out
            subst eo17
            go_wp2
            go_meet
            case rel => exact ⟨_, (decide ((t157.length : Int) ≥ (wrap64 ((wrap64 (1 + (Int.tmod (rd t150 0) 64))) + 4)))), (by first | rfl | (simp; done) | (simp [*]; done)), H', ⟨by first | omega | exact Nat.le_refl _⟩, ⟨by (with_reducible repeat (first | apply Kd.R_alloc | apply Kd.R_drewN | apply Kd.R_drew)); exact Kd.R_mono HO159.out (fun _ hk => trivial)⟩, ⟨by repeat (first | (with_reducible first | exact HB.out | apply below_alloc | apply pw_below_drewN | apply below_drew1) | exact HB.out)⟩⟩
        · rw [if_neg c14] at H
          have c14b0 : (((t157.length : Int) % 4) == 0) = false := beq_eq_false_iff_ne.mpr c14
          have c14b1 : (((t157.length : Int) % 4) != 0) = true := bne_iff_ne.mpr c14
          (first | rw [c14b0] | (simp only [i64_w, i32_w]; rw [c14b0]) | skip)
          have H' := Aside0.mk H
          clear H
          obtain ⟨Ao18, co18, eo18⟩ := Kd.R_slice HO159.out
          subst eo18
          go_wp2
          go_meet
          case rel => exact ⟨_, (true), (by first | rfl | (simp; done) | (simp [*]; done)), H', ⟨by first | omega | exact Nat.le_refl _⟩, ⟨by (with_reducible repeat (first | apply Kd.R_alloc | apply Kd.R_drewN | apply Kd.R_drew)); exact Kd.R_mono HO159.out (fun _ hk => trivial)⟩, ⟨by repeat (first | (with_reducible first | exact HB.out | apply below_alloc | apply pw_below_drewN | apply below_drew1) | exact HB.out)⟩⟩
      case rest =>
        clear HC8
        try clear c1
        try clear p1
        try clear q1
        try clear hx1
        try clear qi1
        try clear p2
        try clear c3
        try clear c5
        try clear c5b0
        try clear c5b1
        try clear c6
        try clear p6
        try clear c7
        try clear c8
        try clear c14
        try clear c14b0
        try clear c14b1
        try clear c15
        try clear c15b0
        try clear p15
        try clear q15
        try clear hx15
        try clear qi15
        try clear hx153_0
        try clear p153
        try clear q153
        obtain ⟨kq, x36_7, rfl, HA, HJ7, HO_5, HB⟩ := hcut
        cases kq with
        | zero => exact absurd HA.out (by simp [laws_FnBooklets.j0])
        | succ kj7 =>
          have H := HA.out
          clear HA
          simp only [laws_FnBooklets.j0] at H
          by_cases c19 : x36_7 = true
          · subst c19
            have H1 : (some false) = some r := by rw [if_pos rfl] at H; exact H
            clear H
            have H := H1
            clear H1
            obtain rfl := Option.some.inj H
            go_wp2
            go_ret
            exact ⟨by first | rfl | (simp [errW_none, errW_some] <;> rfl) | (simp [*, errW_none, errW_some] <;> rfl), by repeat (first | (with_reducible first | exact HB.out | apply below_alloc | apply pw_below_drewN | apply below_drew1) | exact HB.out)⟩
          · replace c19 := Bool.eq_false_iff.mpr c19
            subst c19
            have H1 : (laws_FnBooklets.l0 kj7 (wrap64 (1 + (Int.tmod (rd t150 0) 64))) t157 0) = some r := by rw [if_neg (show ¬ (false = true) by decide)] at H; exact H
            clear H
            have H := H1
            clear H1
            have H' := Aside0.mk H
            clear H
            go_wp2
            go_loopg [6] kj7 (fun kq v6 w' => ∃ (x6_2 : Int), v6 = .int .i64 x6_2 ∧ Aside0 (laws_FnBooklets.l0 kq (wrap64 (1 + (Int.tmod (rd t150 0) 64))) t157 x6_2 = some r) ∧ Aside0 (kq ≤ kj7) ∧ Aside0 (Kd.R (Kd.int .i64) 3 w' w.heap.size (fun _ => True) v158 t157) ∧ Aside0 (Below w.heap.size w w'))
            case atStart => exact ⟨(0), (by first | rfl | (simp; done) | (simp [*]; done)), H', ⟨Nat.le_refl _⟩, ⟨by (with_reducible repeat (first | apply Kd.R_alloc | apply Kd.R_drewN | apply Kd.R_drew)); exact HO_5.out⟩, ⟨by repeat (first | (with_reducible first | exact HB.out | apply below_alloc | apply pw_below_drewN | apply below_drew1) | exact HB.out)⟩⟩
            case round =>
              clear H'
              try clear c1
              try clear p1
              try clear q1
              try clear hx1
              try clear qi1
              try clear p2
              try clear c3
              try clear c5
              try clear c5b0
              try clear c5b1
              try clear c6
              try clear p6
              try clear c7
              try clear c8
              try clear c14
              try clear c14b0
              try clear c14b1
              try clear c15
              try clear c15b0
              try clear p15
              try clear q15
              try clear hx15
              try clear qi15
              try clear c19
              try clear hx153_0
              try clear p1
              try clear p15
              try clear p153
              try clear p2
              try clear p6
              try clear q1
              try clear q15
              try clear q153
              obtain ⟨x6_2, rfl, HA, HK2, HO_5, HB⟩ := hrel
              cases gk with
              | zero => exact absurd HA.out (by simp [laws_FnBooklets.l0])
              | succ k2 =>
                have H := HA.out
                clear HA
                simp only [laws_FnBooklets.l0] at H
                by_cases c20 : x6_2 < (t157.length : Int)
                · rw [if_pos c20] at H
                  have c20b0 : decide (x6_2 < (t157.length : Int)) = true := decide_eq_true c20
                  clear c20
                  by_cases c21 : x6_2 < (wrap64 (1 + (Int.tmod (rd t150 0) 64)))
                  · rw [if_pos c21] at H
                    have c21b0 : decide (x6_2 < (wrap64 (1 + (Int.tmod (rd t150 0) 64)))) = true := decide_eq_true c21
                    clear c21
                    by_cases c22 : 0 ≤ x6_2
                    · rw [if_pos c22] at H
                      have c22b0 : decide (0 ≤ x6_2) = true := decide_eq_true c22
                      clear c22
                      by_cases c23 : (rd t157 x6_2) = (wrap64 (x6_2 + 1))
                      · rw [if_pos c23] at H
                        have c23b0 : ((rd t157 x6_2) == (wrap64 (x6_2 + 1))) = true := beq_iff_eq.mpr c23
                        have c23b1 : ((rd t157 x6_2) != (wrap64 (x6_2 + 1))) = false := bne_eq_false_iff_eq.mpr c23
                        clear c23
                        have H' := Aside0.mk H
                        clear H
                        obtain ⟨Ao24, co24, eo24⟩ := Kd.R_slice HO_5.out
                        subst eo24
                        have p160 : 0 ≤ (x6_2 : Int) := of_decide_eq_true (by first | (with_reducible assumption) | assumption)
                        have q160 : x6_2 < (t157.length : Int) := of_decide_eq_true (by first | (with_reducible assumption) | assumption)
                        obtain ⟨ad160, e160, hx160_0⟩ := Kd.at_int (Kd.R_reads' HO_5.out).2.2 x6_2 p160 q160
                        cases e160
                        replace p160 := eq_true p160
                        replace q160 := eq_true q160
                        go_wp2
                        go_roundg k2
                        case measure => have := HJ7.out; have := HK2.out; omega
                        case rel => exact ⟨(wrap64 (x6_2 + 1)), (by first | rfl | (simp; done) | (simp [*]; done)), H', ⟨by have := HJ7.out; have := HK2.out; omega⟩, ⟨by (with_reducible repeat (first | apply Kd.R_alloc | apply Kd.R_drewN | apply Kd.R_drew)); exact HO_5.out⟩, ⟨by repeat (first | (with_reducible first | exact HB.out | apply below_alloc | apply pw_below_drewN | apply below_drew1) | exact HB.out)⟩⟩
                      · rw [if_neg c23] at H
                        have c23b0 : ((rd t157 x6_2) == (wrap64 (x6_2 + 1))) = false := beq_eq_false_iff_ne.mpr c23
                        have c23b1 : ((rd t157 x6_2) != (wrap64 (x6_2 + 1))) = true := bne_iff_ne.mpr c23
                        obtain rfl := Option.some.inj H
                        obtain ⟨Ao25, co25, eo25⟩ := Kd.R_slice HO_5.out
                        subst eo25
                        have p160 : 0 ≤ (x6_2 : Int) := of_decide_eq_true (by first | (with_reducible assumption) | assumption)
                        have q160 : x6_2 < (t157.length : Int) := of_decide_eq_true (by first | (with_reducible assumption) | assumption)
                        obtain ⟨ad160, e160, hx160_0⟩ := Kd.at_int (Kd.R_reads' HO_5.out).2.2 x6_2 p160 q160
                        cases e160
                        replace p160 := eq_true p160
                        replace q160 := eq_true q160
                        go_wp2
                        go_ret
                        exact ⟨by first | rfl | (simp [errW_none, errW_some] <;> rfl) | (simp [*, errW_none, errW_some] <;> rfl), by repeat (first | (with_reducible first | exact HB.out | apply below_alloc | apply pw_below_drewN | apply below_drew1) | exact HB.out)⟩
                    · rw [if_neg c22] at H
                      exact absurd H (by simp)
                  · rw [if_neg c21] at H
                    have c21b0 : decide (x6_2 < (wrap64 (1 + (Int.tmod (rd t150 0) 64)))) = false := decide_eq_false c21
                    clear c21
                    by_cases c26 : 0 ≤ x6_2
                    · rw [if_pos c26] at H
                      have c26b0 : decide (0 ≤ x6_2) = true := decide_eq_true c26
                      clear c26
                      by_cases c27 : (rd t157 x6_2) = 0
                      · rw [if_pos c27] at H
                        have c27b0 : ((rd t157 x6_2) == 0) = true := beq_iff_eq.mpr c27
                        have c27b1 : ((rd t157 x6_2) != 0) = false := bne_eq_false_iff_eq.mpr c27
                        clear c27
                        have H' := Aside0.mk H
                        clear H
                        obtain ⟨Ao28, co28, eo28⟩ := Kd.R_slice HO_5.out
                        subst eo28
                        have p161 : 0 ≤ (x6_2 : Int) := of_decide_eq_true (by first | (with_reducible assumption) | assumption)
                        have q161 : x6_2 < (t157.length : Int) := of_decide_eq_true (by first | (with_reducible assumption) | assumption)
                        obtain ⟨ad161, e161, hx161_0⟩ := Kd.at_int (Kd.R_reads' HO_5.out).2.2 x6_2 p161 q161
                        cases e161
                        replace p161 := eq_true p161
                        replace q161 := eq_true q161
                        go_wp2
                        go_roundg k2
                        case measure => have := HJ7.out; have := HK2.out; omega
                        case rel => exact ⟨(wrap64 (x6_2 + 1)), (by first | rfl | (simp; done) | (simp [*]; done)), H', ⟨by have := HJ7.out; have := HK2.out; omega⟩, ⟨by (with_reducible repeat (first | apply Kd.R_alloc | apply Kd.R_drewN | apply Kd.R_drew)); exact HO_5.out⟩, ⟨by repeat (first | (with_reducible first | exact HB.out | apply below_alloc | apply pw_below_drewN | apply below_drew1) | exact HB.out)⟩⟩
                      · rw [if_neg c27] at H
                        have c27b0 : ((rd t157 x6_2) == 0) = false := beq_eq_false_iff_ne.mpr c27
                        have c27b1 : ((rd t157 x6_2) != 0) = true := bne_iff_ne.mpr c27
                        obtain rfl := Option.some.inj H
                        obtain ⟨Ao29, co29, eo29⟩ := Kd.R_slice HO_5.out
                        subst eo29
                        have p161 : 0 ≤ (x6_2 : Int) := of_decide_eq_true (by first | (with_reducible assumption) | assumption)
                        have q161 : x6_2 < (t157.length : Int) := of_decide_eq_true (by first | (with_reducible assumption) | assumption)
                        obtain ⟨ad161, e161, hx161_0⟩ := Kd.at_int (Kd.R_reads' HO_5.out).2.2 x6_2 p161 q161
                        cases e161
                        replace p161 := eq_true p161
                        replace q161 := eq_true q161
                        go_wp2
                        go_ret
                        exact ⟨by first | rfl | (simp [errW_none, errW_some] <;> rfl) | (simp [*, errW_none, errW_some] <;> rfl), by repeat (first | (with_reducible first | exact HB.out | apply below_alloc | apply pw_below_drewN | apply below_drew1) | exact HB.out)⟩
                    · rw [if_neg c26] at H
                      exact absurd H (by simp)
                · rw [if_neg c20] at H
                  have c20b0 : decide (x6_2 < (t157.length : Int)) = false := decide_eq_false c20
                  clear c20
                  obtain rfl := Option.some.inj H
                  obtain ⟨Ao30, co30, eo30⟩ := Kd.R_slice HO_5.out
                  subst eo30
                  go_wp2
                  go_ret
                  exact ⟨by first | rfl | (simp [errW_none, errW_some] <;> rfl) | (simp [*, errW_none, errW_some] <;> rfl), by repeat (first | (with_reducible first | exact HB.out | apply below_alloc | apply pw_below_drewN | apply below_drew1) | exact HB.out)⟩
    · rw [if_neg c5] at H
      exact absurd H (by simp)

/-- THE ONE PURE STATEMENT of laws_FnBooklets: yours. -/
def laws_FnBooklets.Pure : Prop := ∀ (l0 : List Int), l0.length ≤ maxLen → l0.length * 1 ≤ 140737488351232 → (∀ x ∈ l0, (Lit.int .u8 x).wf = true) → ∃ k, laws_FnBooklets.f k l0 = some true
theorem laws_FnBooklets.walk (P : laws_FnBooklets.Pure) (a0 : Option Addr) (len0 cap0 : Nat) (z0 : List Int) (w : World) (w0 : (a0 = none ∧ len0 = 0 ∧ cap0 = 0 ∧ z0 = []) ∨ ∃ x, a0 = some x ∧ len0 ≤ cap0 ∧ cap0 ≤ maxLen ∧ z0.length = cap0 ∧ (∀ i, i < z0.length → w.cell? (x.add i) = some (.int .u8 (z0.getD i 0))) ∧ ∀ n ∈ z0, (Lit.int .u8 n).wf = true) (y0 : len0 * 1 ≤ 140737488351232) :
    Calls Try.prog 3 #[.slice a0 len0 cap0] w fun e w' => e = .returned (.bool true) ∧ Below w.heap.size w w' := by
  obtain ⟨l0, rfl, hr0, hm0, hw0, hc0⟩ := ReadsInt.ofRowC w0
  obtain ⟨k, h⟩ := P l0 hm0 y0 hw0
  refine (laws_FnBooklets.calls k _ _ l0 true w (Kd.C_of_reads (d := (0 : Int)) (h1 := fun _ => rfl) hr0) hc0 h).mono ?_
  rintro e w' ⟨rfl, hd⟩
  exact ⟨rfl, hd⟩

end Go.Proofs.Ytneeokmfpiacoaa.PFnBooklets
