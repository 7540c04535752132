/- Written by a program of this session (a turned copy of the kit's printer): what each Go function answers, and that it does. -/
import Derived.Test.YtifaojbmdahoiaaPFnExactBreakLinesx0
import Derived.Test.YtifaojbmdahoiaaPFnExactBreakLinesx1
import Derived.Test.YtifaojbmdahoiaaPFnExactBreakLinesx2
namespace Go.Proofs.Ytifaojbmdahoiaa.PFnExactBreakLines
open Go.RowKit Go.Proofs.YtifaojbmdahoiaaW.PrintWords Go.Proofs.YtifaojbmdahoiaaW.PrintLast Go.Proofs.YtifaojbmdahoiaaW.PrintMore
attribute [local go_sem] Go.Proofs.Ytifaojbmdahoiaa.Cells.cell_set_at max2_int min2_int max_two min_two max_three min_three max_four min_four   -- for this text's walks alone
set_option linter.unusedVariables false
set_option linter.unusedSimpArgs false

/-! ### laws_heldIntSS: function 34 -/
def laws_heldIntSS.l0 : Nat → List (List Int) → Int → Int → Option (Int)
  | 0, _, _, _ => none
  | k + 1, x0, x1, x5 => if x5 < (x0.length : Int) then (if 0 ≤ x5 then ((laws_heldIntS.f k (rd_L1 x0 x5) x1).bind fun t157 => (if t157 < 0 then (some (-1)) else (laws_heldIntSS.l0 k x0 t157 (wrap64 (x5 + 1))))) else (none)) else (some x1)
def laws_heldIntSS.f (k : Nat) (l0 : List (List Int)) (a1 : Int) : Option (Int) := laws_heldIntSS.l0 k l0 a1 0
theorem laws_heldIntSS.mono_l : ∀ k, (∀ y0 y1 y2, LeO (laws_heldIntSS.l0 k y0 y1 y2) (laws_heldIntSS.l0 (k + 1) y0 y1 y2))
  | 0 => fun _ _ _ r h => by simp [laws_heldIntSS.l0] at h
  | k + 1 => by
    have ih0 := laws_heldIntSS.mono_l k
    · intro y0 y1 y2
      unfold laws_heldIntSS.l0
      repeat' first
      | (with_reducible exact ih0 _ _ _)
      | (with_reducible exact laws_heldIntS.mono _ _ _)
      | (with_reducible exact LeO.refl _)
      | (with_reducible exact LeO.none _)
      | (with_reducible refine LeO.ite ?_ ?_)
      | (with_reducible refine LeO.bind ?_ (fun _ => ?_))
      | exact ih0 _ _ _
      | exact laws_heldIntS.mono _ _ _
      | exact LeO.none _
      | refine LeO.ite ?_ ?_
      | refine LeO.bind ?_ (fun _ => ?_)
theorem laws_heldIntSS.mono : ∀ a0 a1 k, LeO (laws_heldIntSS.f k a0 a1) (laws_heldIntSS.f (k + 1) a0 a1) := by
  intro a0 a1 k
  have ih0 := laws_heldIntSS.mono_l k
  unfold laws_heldIntSS.f
  repeat' first
      | (with_reducible exact ih0 _ _ _)
      | (with_reducible exact laws_heldIntS.mono _ _ _)
      | (with_reducible exact LeO.refl _)
      | (with_reducible exact LeO.none _)
      | (with_reducible refine LeO.ite ?_ ?_)
      | (with_reducible refine LeO.bind ?_ (fun _ => ?_))
      | exact ih0 _ _ _
      | exact laws_heldIntS.mono _ _ _
      | exact LeO.none _
      | refine LeO.ite ?_ ?_
      | refine LeO.bind ?_ (fun _ => ?_)
set_option maxHeartbeats 8000000 in
set_option maxRecDepth 100000 in
theorem laws_heldIntSS.calls (k : Nat) (A0 : Option Addr) (c0 : Nat) (l0 : List (List Int)) (a1 : Int) (r : Int) (w : World) (hr0 : Kd.C (Kd.slice 3 (Kd.int .i64)) w A0 l0.length l0) (hc0 : l0.length ≤ c0) (h : laws_heldIntSS.f k l0 a1 = some r) :
    Calls Try.prog 34 #[.slice A0 l0.length c0, .int .i64 a1] w fun e w' => e = .returned (.int .i64 r) ∧ Drawn0 w w' := by
  have HR0 := Aside0.mk hr0
  have HC0 := Aside0.mk hc0
  clear hr0 hc0
  have H : (laws_heldIntSS.l0 k l0 a1 0) = some r := h
  clear h
  have H' := Aside0.mk H
  clear H
  go_enter Try.func34, Try.ntmps34
  go_wp2
  go_loopg [1, 5] k (fun kq v1 v5 w' => ∃ (x1_1 : Int) (x5_1 : Int), v1 = .int .i64 x1_1 ∧ v5 = .int .i64 x5_1 ∧ Aside0 (laws_heldIntSS.l0 kq l0 x1_1 x5_1 = some r) ∧ Aside0 (kq ≤ k) ∧ Drawn0 w w')
  case atStart => exact ⟨(a1), (0), (by first | rfl | (simp; done) | (simp [*]; done)), (by first | rfl | (simp; done) | (simp [*]; done)), H', ⟨Nat.le_refl _⟩, by repeat (first | exact Drawn0.refl _ | apply Drawn0.step)⟩
  case round =>
    clear H'
    try clear p2
    obtain ⟨x1_1, x5_1, rfl, rfl, HA, HK1, ⟨m1, rfl⟩⟩ := hrel
    cases gk with
    | zero => exact absurd HA.out (by simp [laws_heldIntSS.l0])
    | succ k1 =>
      have H := HA.out
      clear HA
      simp only [laws_heldIntSS.l0] at H
      by_cases c3 : x5_1 < (l0.length : Int)
      · rw [if_pos c3] at H
        have c3b0 : decide (x5_1 < (l0.length : Int)) = true := decide_eq_true c3
        clear c3
        by_cases c4 : 0 ≤ x5_1
        · rw [if_pos c4] at H
          have c4b0 : decide (0 ≤ x5_1) = true := decide_eq_true c4
          clear c4
          replace H := Option.bind_eq_some_iff.mp H
          obtain ⟨t157, A50, H⟩ := H
          replace H : (if t157 < 0 then (some (-1)) else (laws_heldIntSS.l0 k1 l0 t157 (wrap64 (x5_1 + 1)))) = some r := H
          have A5 := Aside0.mk A50
          clear A50
          by_cases c6 : t157 < 0
          · rw [if_pos c6] at H
            have c6b0 : decide (t157 < 0) = true := decide_eq_true c6
            clear c6
            obtain rfl := Option.some.inj H
            have p156 : 0 ≤ (x5_1 : Int) := of_decide_eq_true (by first | (with_reducible assumption) | assumption)
            have q156 : x5_1 < (l0.length : Int) := of_decide_eq_true (by first | (with_reducible assumption) | assumption)
            obtain ⟨ad156, A156_0, c156_0, e156, hx156_0, hl156_0, hi156_0⟩ := at_L1 HR0.out x5_1 p156 q156
            cases e156
            have HR156_0 := Aside0.mk hi156_0
            have HC156_0 := Aside0.mk hl156_0
            clear hi156_0 hl156_0
            replace p156 := eq_true p156
            replace q156 := eq_true q156
            go_wp2_with (first | ((with_reducible refine gate_callee (f := 23) rfl ?_); refine goesL_ (some 17) rfl rfl Try.func23 (by kernel_rfl) rfl #[.slice A156_0 (rd_L1 l0 x5_1).length c156_0, .int .i64 x1_1] rfl (by (try simp only [List.map_toArray, List.map_cons, List.map_nil]); first | done | rfl | (simp only [List.length_drop, List.length_take]; rfl)) ?_; (with_reducible refine (laws_heldIntS.calls k1 _ _ (rd_L1 l0 x5_1) x1_1 t157 _ ?side1 ?side2 A5.out).mono ?_); (case side1 => repeat (first | exact HR156_0.out | (with_reducible refine Kd.C_alloc ?_ _) | (with_reducible refine Kd.C_drewN ?_ _) | (with_reducible refine Kd.C_drew ?_))); (case side2 => exact HC156_0.out); rintro e w' ⟨rfl, ⟨nd, rfl⟩⟩; refine ⟨_, rfl, ?_⟩))
            go_ret
            exact ⟨by first | rfl | (simp; done) | (simp [*]; done), by repeat (first | exact Drawn0.refl _ | apply Drawn0.step)⟩
          · rw [if_neg c6] at H
            have c6b0 : decide (t157 < 0) = false := decide_eq_false c6
            clear c6
            have H' := Aside0.mk H
            clear H
            have p156 : 0 ≤ (x5_1 : Int) := of_decide_eq_true (by first | (with_reducible assumption) | assumption)
            have q156 : x5_1 < (l0.length : Int) := of_decide_eq_true (by first | (with_reducible assumption) | assumption)
            obtain ⟨ad156, A156_0, c156_0, e156, hx156_0, hl156_0, hi156_0⟩ := at_L1 HR0.out x5_1 p156 q156
            cases e156
            have HR156_0 := Aside0.mk hi156_0
            have HC156_0 := Aside0.mk hl156_0
            clear hi156_0 hl156_0
            replace p156 := eq_true p156
            replace q156 := eq_true q156
            go_wp2_with (first | ((with_reducible refine gate_callee (f := 23) rfl ?_); refine goesL_ (some 17) rfl rfl Try.func23 (by kernel_rfl) rfl #[.slice A156_0 (rd_L1 l0 x5_1).length c156_0, .int .i64 x1_1] rfl (by (try simp only [List.map_toArray, List.map_cons, List.map_nil]); first | done | rfl | (simp only [List.length_drop, List.length_take]; rfl)) ?_; (with_reducible refine (laws_heldIntS.calls k1 _ _ (rd_L1 l0 x5_1) x1_1 t157 _ ?side1 ?side2 A5.out).mono ?_); (case side1 => repeat (first | exact HR156_0.out | (with_reducible refine Kd.C_alloc ?_ _) | (with_reducible refine Kd.C_drewN ?_ _) | (with_reducible refine Kd.C_drew ?_))); (case side2 => exact HC156_0.out); rintro e w' ⟨rfl, ⟨nd, rfl⟩⟩; refine ⟨_, rfl, ?_⟩))
            go_roundg k1
            case measure => have := HK1.out; omega
            case rel => exact ⟨(t157), (wrap64 (x5_1 + 1)), (by first | rfl | (simp; done) | (simp [*]; done)), (by first | rfl | (simp; done) | (simp [*]; done)), H', ⟨by have := HK1.out; omega⟩, by repeat (first | exact Drawn0.refl _ | apply Drawn0.step)⟩
        · rw [if_neg c4] at H
          exact absurd H (by simp)
      · rw [if_neg c3] at H
        have c3b0 : decide (x5_1 < (l0.length : Int)) = false := decide_eq_false c3
        clear c3
        obtain rfl := Option.some.inj H
        go_wp2
        go_ret
        exact ⟨by first | rfl | (simp; done) | (simp [*]; done), by repeat (first | exact Drawn0.refl _ | apply Drawn0.step)⟩

/-! ### laws_FnExactBreakLines: function 5 (a contract of this session's own) -/
def laws_FnExactBreakLines.f (k : Nat) (l0 : List Int) (a1 : Int) : Option Bool :=
  if (l0.length : Int) > 1048576 then some true else
  (laws_toIntS.f k l0).bind fun x1 =>
  (spec_BreakLines.f k x1 a1).bind fun W =>
  (laws_toIntS.f k l0).bind fun x3 =>
  (impl_BreakLines.f k x3 a1).bind fun G =>
  (laws_eqIntSS.f k G W).bind fun b5 =>
  if b5 = true then
  (laws_toIntS.f k l0).bind fun x6 =>
  (laws_eqIntS.f k x3 x6).bind fun b7 =>
  if b7 = true then
  (laws_markIntS.f k x3 1).bind fun p9 =>
  if ¬ p9.1 < 0 then
  (laws_eqIntSS.f k G W).bind fun b9 =>
  if b9 = true then
  (laws_markIntSS.f k G 1).bind fun p13 =>
  (laws_heldIntSS.f k p13.2 1).bind fun q11 =>
  if ¬ q11 < 0 then
  if q11 = p13.1 then
  (laws_toIntS.f k l0).bind fun x12 =>
  (impl_BreakLines.f k x12 a1).bind fun H =>
  (laws_eqIntSS.f k H W).bind fun b14 =>
  if b14 = true then
  (laws_heldIntSS.f k p13.2 1).bind fun q15 =>
  if q15 = p13.1 then
  some true else none else none else none else none else none else none else none else none
set_option maxHeartbeats 8000000 in
set_option maxRecDepth 100000 in
theorem laws_FnExactBreakLines.calls (k : Nat) (A0 : Option Addr) (c0 : Nat) (l0 : List Int) (a1 : Int) (r : Bool) (w : World) (hr0 : Kd.C (Kd.int .i64) w A0 l0.length l0) (hc0 : l0.length ≤ c0) (h : laws_FnExactBreakLines.f k l0 a1 = some r) :
    Calls Try.prog 5 #[.slice A0 l0.length c0, .int .i64 a1] w fun e w' => e = .returned (.bool r) ∧ Below w.heap.size w w' := by
  unfold laws_FnExactBreakLines.f at h
  have C0 := Aside0.mk hr0
  have L0 := Aside0.mk hc0
  clear hr0 hc0
  by_cases o0 : (l0.length : Int) > 1048576
  · rw [if_pos o0] at h
    obtain rfl := Option.some.inj h
    clear h
    have o0d : decide ((1048576 : Int) < (l0.length : Int)) = true := decide_eq_true o0
    have o0n : decide (1048576 < l0.length) = true := decide_eq_true (by omega)
    clear o0
    go_enter Try.func5, Try.ntmps5
    go_wp2
    go_ret
    exact ⟨rfl, Below.refl _ _⟩
  rw [if_neg o0] at h
  have o0d : decide ((1048576 : Int) < (l0.length : Int)) = false := decide_eq_false o0
  have o0n : decide (1048576 < l0.length) = false := decide_eq_false (by omega)
  clear o0
  replace h := Option.bind_eq_some_iff.1 h
  obtain ⟨x1, q0, h⟩ := h
  have Q0 := Aside0.mk q0
  clear q0
  replace h := Option.bind_eq_some_iff.1 h
  obtain ⟨W, q1, h⟩ := h
  have Q1 := Aside0.mk q1
  clear q1
  replace h := Option.bind_eq_some_iff.1 h
  obtain ⟨x3, q2, h⟩ := h
  have Q2 := Aside0.mk q2
  clear q2
  replace h := Option.bind_eq_some_iff.1 h
  obtain ⟨G, q3, h⟩ := h
  have Q3 := Aside0.mk q3
  clear q3
  replace h := Option.bind_eq_some_iff.1 h
  obtain ⟨b5, q4, h⟩ := h
  have Q4 := Aside0.mk q4
  clear q4
  by_cases e5 : b5 = true
  case neg => rw [if_neg e5] at h; cases h
  rw [if_pos e5] at h
  subst e5
  replace h := Option.bind_eq_some_iff.1 h
  obtain ⟨x6, q6, h⟩ := h
  have Q6 := Aside0.mk q6
  clear q6
  replace h := Option.bind_eq_some_iff.1 h
  obtain ⟨b7, q7, h⟩ := h
  have Q7 := Aside0.mk q7
  clear q7
  by_cases e8 : b7 = true
  case neg => rw [if_neg e8] at h; cases h
  rw [if_pos e8] at h
  subst e8
  replace h := Option.bind_eq_some_iff.1 h
  obtain ⟨⟨m8, x8⟩, q9, h⟩ := h
  have Q9 := Aside0.mk q9
  clear q9
  by_cases e10 : ¬ m8 < 0
  case neg => rw [if_neg e10] at h; cases h
  rw [if_pos e10] at h
  have d8 : decide (m8 < 0) = false := decide_eq_false e10
  replace h := Option.bind_eq_some_iff.1 h
  obtain ⟨b9, q11, h⟩ := h
  have Q11 := Aside0.mk q11
  clear q11
  by_cases e12 : b9 = true
  case neg => rw [if_neg e12] at h; cases h
  rw [if_pos e12] at h
  subst e12
  replace h := Option.bind_eq_some_iff.1 h
  obtain ⟨⟨m10, G2⟩, q13, h⟩ := h
  have Q13 := Aside0.mk q13
  clear q13
  replace h := Option.bind_eq_some_iff.1 h
  obtain ⟨q11, q14, h⟩ := h
  have Q14 := Aside0.mk q14
  clear q14
  by_cases e15 : ¬ q11 < 0
  case neg => rw [if_neg e15] at h; cases h
  rw [if_pos e15] at h
  have d11 : decide (q11 < 0) = false := decide_eq_false e15
  by_cases e16 : q11 = m10
  case neg => rw [if_neg e16] at h; cases h
  rw [if_pos e16] at h
  subst q11
  replace h := Option.bind_eq_some_iff.1 h
  obtain ⟨x12, q17, h⟩ := h
  have Q17 := Aside0.mk q17
  clear q17
  replace h := Option.bind_eq_some_iff.1 h
  obtain ⟨H, q18, h⟩ := h
  have Q18 := Aside0.mk q18
  clear q18
  replace h := Option.bind_eq_some_iff.1 h
  obtain ⟨b14, q19, h⟩ := h
  have Q19 := Aside0.mk q19
  clear q19
  by_cases e20 : b14 = true
  case neg => rw [if_neg e20] at h; cases h
  rw [if_pos e20] at h
  subst e20
  replace h := Option.bind_eq_some_iff.1 h
  obtain ⟨q15, q21, h⟩ := h
  have Q21 := Aside0.mk q21
  clear q21
  by_cases e22 : q15 = m10
  case neg => rw [if_neg e22] at h; cases h
  rw [if_pos e22] at h
  subst q15
  obtain rfl := Option.some.inj h
  clear h
  have B := Aside0.mk (Below.refl w.heap.size w)
  have M0 : Aside0 True := ⟨trivial⟩
  have M1 : Aside0 True := ⟨trivial⟩
  have M2 : Aside0 True := ⟨trivial⟩
  have M3 : Aside0 True := ⟨trivial⟩
  have M4 : Aside0 True := ⟨trivial⟩
  have M6 : Aside0 True := ⟨trivial⟩
  have M7 : Aside0 True := ⟨trivial⟩
  have M9 : Aside0 True := ⟨trivial⟩
  have M11 : Aside0 True := ⟨trivial⟩
  have M13 : Aside0 True := ⟨trivial⟩
  have M14 : Aside0 True := ⟨trivial⟩
  have M17 : Aside0 True := ⟨trivial⟩
  have M18 : Aside0 True := ⟨trivial⟩
  have M19 : Aside0 True := ⟨trivial⟩
  have M21 : Aside0 True := ⟨trivial⟩
  go_enter Try.func5, Try.ntmps5
  go_wp2_with (first | (go_at_call 30; clear M0; refine (laws_toIntS.calls k _ _ l0 x1 _ ?s0 ?s1 Q0.out).mono ?_; (case s0 => exact (Kd.C_below C0.out B.out)); (case s1 => exact L0.out); rintro e w0 ⟨v0, rfl, ho, hb⟩; obtain ⟨A_x1, c_x1, rfl⟩ := Kd.R_slice ho; have ho_ := Aside0.mk (Kd.R_lower (Kd.R_mono (Kd.R_bound ho) (fun k_ hk => (⟨hk.2.1, hk.2.2.1⟩ : w.heap.size ≤ k_ ∧ k_ < w0.heap.size))) B.out.size); clear ho; have B_ := Aside0.mk (below_step B.out hb); have O0 := Aside0.mk hb.size; clear B; have B := B_; clear B_ hb; have Fx1 := ho_; clear ho_) | (go_at_call 29; clear M1; refine (spec_BreakLines.calls k _ _ x1 (a1) W _ ?s0 ?s1 Q1.out).mono ?_; (case s0 => exact (Kd.R_reads' Fx1.out).2.2); (case s1 => exact (Kd.R_reads' Fx1.out).2.1); rintro e w1 ⟨v1, rfl, ho, hb⟩; obtain ⟨A_W, c_W, rfl⟩ := Kd.S_slice ho; have ho_ := Aside0.mk (Kd.S_lower (Kd.S_mono (Kd.S_bound ho) (fun k_ hk => (⟨hk.2.1, hk.2.2.1⟩ : w0.heap.size ≤ k_ ∧ k_ < w1.heap.size))) B.out.size); clear ho; have B_ := Aside0.mk (below_step B.out hb); have O1 := Aside0.mk hb.size; have n_ := Aside0.mk (Kd.R_below Fx1.out hb); clear Fx1; have Fx1 := n_; clear n_; clear B; have B := B_; clear B_ hb; have FW := ho_; clear ho_) | (go_at_call 30; clear M2; refine (laws_toIntS.calls k _ _ l0 x3 _ ?s0 ?s1 Q2.out).mono ?_; (case s0 => exact (Kd.C_below C0.out B.out)); (case s1 => exact L0.out); rintro e w2 ⟨v2, rfl, ho, hb⟩; obtain ⟨A_x3, c_x3, rfl⟩ := Kd.R_slice ho; have ho_ := Aside0.mk (Kd.R_lower (Kd.R_mono (Kd.R_bound ho) (fun k_ hk => (⟨hk.2.1, hk.2.2.1⟩ : w1.heap.size ≤ k_ ∧ k_ < w2.heap.size))) B.out.size); clear ho; have B_ := Aside0.mk (below_step B.out hb); have O2 := Aside0.mk hb.size; have n_ := Aside0.mk (Kd.R_below Fx1.out hb); clear Fx1; have Fx1 := n_; clear n_; have n_ := Aside0.mk (Kd.S_below FW.out hb); clear FW; have FW := n_; clear n_; clear B; have B := B_; clear B_ hb; have Fx3 := ho_; clear ho_) | (go_at_call 31; clear M3; refine (impl_BreakLines.calls k _ _ x3 (a1) G _ ?s0 ?s1 Q3.out).mono ?_; (case s0 => exact (Kd.R_reads' Fx3.out).2.2); (case s1 => exact (Kd.R_reads' Fx3.out).2.1); rintro e w3 ⟨v3, rfl, ho, hb⟩; obtain ⟨A_G, c_G, rfl⟩ := Kd.S_slice ho; have ho_ := Aside0.mk (Kd.S_lower (Kd.S_mono (Kd.S_bound ho) (fun k_ hk => (⟨hk.2.1, hk.2.2.1⟩ : w2.heap.size ≤ k_ ∧ k_ < w3.heap.size))) B.out.size); clear ho; have B_ := Aside0.mk (below_step B.out hb); have O3 := Aside0.mk hb.size; have n_ := Aside0.mk (Kd.R_below Fx1.out hb); clear Fx1; have Fx1 := n_; clear n_; have n_ := Aside0.mk (Kd.S_below FW.out hb); clear FW; have FW := n_; clear n_; have n_ := Aside0.mk (Kd.R_below Fx3.out hb); clear Fx3; have Fx3 := n_; clear n_; clear B; have B := B_; clear B_ hb; have FG := ho_; clear ho_) | (go_at_call 32; clear M4; refine (laws_eqIntSS.calls k _ _ G _ _ W true _ ?s0 ?s1 ?s2 ?s3 Q4.out).mono ?_; (case s0 => exact (Kd.S_reads' FG.out).2.2); (case s1 => exact (Kd.S_reads' FG.out).2.1); (case s2 => exact (Kd.S_reads' FW.out).2.2); (case s3 => exact (Kd.S_reads' FW.out).2.1); rintro e w4 ⟨rfl, hd⟩; have hb := hd.below; clear hd; have B_ := Aside0.mk (below_step B.out hb); have O4 := Aside0.mk hb.size; have n_ := Aside0.mk (Kd.R_below Fx1.out hb); clear Fx1; have Fx1 := n_; clear n_; have n_ := Aside0.mk (Kd.S_below FW.out hb); clear FW; have FW := n_; clear n_; have n_ := Aside0.mk (Kd.R_below Fx3.out hb); clear Fx3; have Fx3 := n_; clear n_; have n_ := Aside0.mk (Kd.S_below FG.out hb); clear FG; have FG := n_; clear n_; clear B; have B := B_; clear B_ hb) | (go_at_call 30; clear M6; refine (laws_toIntS.calls k _ _ l0 x6 _ ?s0 ?s1 Q6.out).mono ?_; (case s0 => exact (Kd.C_below C0.out B.out)); (case s1 => exact L0.out); rintro e w6 ⟨v6, rfl, ho, hb⟩; obtain ⟨A_x6, c_x6, rfl⟩ := Kd.R_slice ho; have ho_ := Aside0.mk (Kd.R_lower (Kd.R_mono (Kd.R_bound ho) (fun k_ hk => (⟨hk.2.1, hk.2.2.1⟩ : w4.heap.size ≤ k_ ∧ k_ < w6.heap.size))) B.out.size); clear ho; have B_ := Aside0.mk (below_step B.out hb); have O6 := Aside0.mk hb.size; have n_ := Aside0.mk (Kd.R_below Fx1.out hb); clear Fx1; have Fx1 := n_; clear n_; have n_ := Aside0.mk (Kd.S_below FW.out hb); clear FW; have FW := n_; clear n_; have n_ := Aside0.mk (Kd.R_below Fx3.out hb); clear Fx3; have Fx3 := n_; clear n_; have n_ := Aside0.mk (Kd.S_below FG.out hb); clear FG; have FG := n_; clear n_; clear B; have B := B_; clear B_ hb; have Fx6 := ho_; clear ho_) | (go_at_call 19; clear M7; refine (laws_eqIntS.calls k _ _ x3 _ _ x6 true _ ?s0 ?s1 ?s2 ?s3 Q7.out).mono ?_; (case s0 => exact (Kd.R_reads' Fx3.out).2.2); (case s1 => exact (Kd.R_reads' Fx3.out).2.1); (case s2 => exact (Kd.R_reads' Fx6.out).2.2); (case s3 => exact (Kd.R_reads' Fx6.out).2.1); rintro e w7 ⟨rfl, hd⟩; have hb := hd.below; clear hd; have B_ := Aside0.mk (below_step B.out hb); have O7 := Aside0.mk hb.size; have n_ := Aside0.mk (Kd.R_below Fx1.out hb); clear Fx1; have Fx1 := n_; clear n_; have n_ := Aside0.mk (Kd.S_below FW.out hb); clear FW; have FW := n_; clear n_; have n_ := Aside0.mk (Kd.R_below Fx3.out hb); clear Fx3; have Fx3 := n_; clear n_; have n_ := Aside0.mk (Kd.S_below FG.out hb); clear FG; have FG := n_; clear n_; have n_ := Aside0.mk (Kd.R_below Fx6.out hb); clear Fx6; have Fx6 := n_; clear n_; clear B; have B := B_; clear B_ hb) | (go_at_call 22; clear M9; refine (laws_markIntS.calls k (fun k_ => w1.heap.size ≤ k_ ∧ k_ < w2.heap.size) _ x3 1 m8 x8 w _ B.out Fx3.out Q9.out).mono ?_; rintro e w9 ⟨rfl, ho, hb, hk⟩; have O9 := Aside0.mk hk.1; have n_ := Aside0.mk (Kd.R_step Fx1.out (fun k_ hk_ hlt_ => hk.2 k_ hlt_ (fun hp_ => by have := O0.out; have := O1.out; have := O2.out; have := O3.out; have := O4.out; have := O6.out; have := O7.out; obtain ⟨_, _⟩ := hk_; obtain ⟨_, _⟩ := hp_; omega))); clear Fx1; have Fx1 := n_; clear n_; have n_ := Aside0.mk (Kd.S_step FW.out (fun k_ hk_ hlt_ => hk.2 k_ hlt_ (fun hp_ => by have := O0.out; have := O1.out; have := O2.out; have := O3.out; have := O4.out; have := O6.out; have := O7.out; obtain ⟨_, _⟩ := hk_; obtain ⟨_, _⟩ := hp_; omega))); clear FW; have FW := n_; clear n_; have n_ := Aside0.mk (Kd.S_step FG.out (fun k_ hk_ hlt_ => hk.2 k_ hlt_ (fun hp_ => by have := O0.out; have := O1.out; have := O2.out; have := O3.out; have := O4.out; have := O6.out; have := O7.out; obtain ⟨_, _⟩ := hk_; obtain ⟨_, _⟩ := hp_; omega))); clear FG; have FG := n_; clear n_; have n_ := Aside0.mk (Kd.R_step Fx6.out (fun k_ hk_ hlt_ => hk.2 k_ hlt_ (fun hp_ => by have := O0.out; have := O1.out; have := O2.out; have := O3.out; have := O4.out; have := O6.out; have := O7.out; obtain ⟨_, _⟩ := hk_; obtain ⟨_, _⟩ := hp_; omega))); clear Fx6; have Fx6 := n_; clear n_; clear B Fx3; have B := Aside0.mk hb; clear hb hk; clear ho) | (go_at_call 32; clear M11; refine (laws_eqIntSS.calls k _ _ G _ _ W true _ ?s0 ?s1 ?s2 ?s3 Q11.out).mono ?_; (case s0 => exact (Kd.S_reads' FG.out).2.2); (case s1 => exact (Kd.S_reads' FG.out).2.1); (case s2 => exact (Kd.S_reads' FW.out).2.2); (case s3 => exact (Kd.S_reads' FW.out).2.1); rintro e w11 ⟨rfl, hd⟩; have hb := hd.below; clear hd; have B_ := Aside0.mk (below_step B.out hb); have O11 := Aside0.mk hb.size; have n_ := Aside0.mk (Kd.R_below Fx1.out hb); clear Fx1; have Fx1 := n_; clear n_; have n_ := Aside0.mk (Kd.S_below FW.out hb); clear FW; have FW := n_; clear n_; have n_ := Aside0.mk (Kd.S_below FG.out hb); clear FG; have FG := n_; clear n_; have n_ := Aside0.mk (Kd.R_below Fx6.out hb); clear Fx6; have Fx6 := n_; clear n_; clear B; have B := B_; clear B_ hb) | (go_at_call 33; clear M13; refine (laws_markIntSS.calls k (fun k_ => w2.heap.size ≤ k_ ∧ k_ < w3.heap.size) _ G 1 m10 G2 w _ B.out FG.out Q13.out).mono ?_; rintro e w13 ⟨rfl, ho, hb, hk⟩; have O13 := Aside0.mk hk.1; have n_ := Aside0.mk (Kd.R_step Fx1.out (fun k_ hk_ hlt_ => hk.2 k_ hlt_ (fun hp_ => by have := O0.out; have := O1.out; have := O2.out; have := O3.out; have := O4.out; have := O6.out; have := O7.out; have := O9.out; have := O11.out; obtain ⟨_, _⟩ := hk_; obtain ⟨_, _⟩ := hp_; omega))); clear Fx1; have Fx1 := n_; clear n_; have n_ := Aside0.mk (Kd.S_step FW.out (fun k_ hk_ hlt_ => hk.2 k_ hlt_ (fun hp_ => by have := O0.out; have := O1.out; have := O2.out; have := O3.out; have := O4.out; have := O6.out; have := O7.out; have := O9.out; have := O11.out; obtain ⟨_, _⟩ := hk_; obtain ⟨_, _⟩ := hp_; omega))); clear FW; have FW := n_; clear n_; have n_ := Aside0.mk (Kd.R_step Fx6.out (fun k_ hk_ hlt_ => hk.2 k_ hlt_ (fun hp_ => by have := O0.out; have := O1.out; have := O2.out; have := O3.out; have := O4.out; have := O6.out; have := O7.out; have := O9.out; have := O11.out; obtain ⟨_, _⟩ := hk_; obtain ⟨_, _⟩ := hp_; omega))); clear Fx6; have Fx6 := n_; clear n_; clear B FG; have B := Aside0.mk hb; clear hb hk; have FG2 := Aside0.mk ho; clear ho; obtain ⟨A_G2, c_G2, e_G2⟩ := Kd.S_slice FG2.out; (injection e_G2 with e1_ e2_ e3_); rw [e2_] at FG2 ⊢; clear e1_ e2_ e3_) | (go_at_call 34; clear M14; refine (laws_heldIntSS.calls k _ _ G2 (1) m10 _ ?s0 ?s1 Q14.out).mono ?_; (case s0 => exact (Kd.S_reads' FG2.out).2.2); (case s1 => exact (Kd.S_reads' FG2.out).2.1); rintro e w14 ⟨rfl, hd⟩; have hb := hd.below; clear hd; have B_ := Aside0.mk (below_step B.out hb); have O14 := Aside0.mk hb.size; have n_ := Aside0.mk (Kd.R_below Fx1.out hb); clear Fx1; have Fx1 := n_; clear n_; have n_ := Aside0.mk (Kd.S_below FW.out hb); clear FW; have FW := n_; clear n_; have n_ := Aside0.mk (Kd.R_below Fx6.out hb); clear Fx6; have Fx6 := n_; clear n_; have n_ := Aside0.mk (Kd.S_below FG2.out hb); clear FG2; have FG2 := n_; clear n_; clear B; have B := B_; clear B_ hb) | (go_at_call 30; clear M17; refine (laws_toIntS.calls k _ _ l0 x12 _ ?s0 ?s1 Q17.out).mono ?_; (case s0 => exact (Kd.C_below C0.out B.out)); (case s1 => exact L0.out); rintro e w17 ⟨v17, rfl, ho, hb⟩; obtain ⟨A_x12, c_x12, rfl⟩ := Kd.R_slice ho; have ho_ := Aside0.mk (Kd.R_lower (Kd.R_mono (Kd.R_bound ho) (fun k_ hk => (⟨hk.2.1, hk.2.2.1⟩ : w14.heap.size ≤ k_ ∧ k_ < w17.heap.size))) B.out.size); clear ho; have B_ := Aside0.mk (below_step B.out hb); have O17 := Aside0.mk hb.size; have n_ := Aside0.mk (Kd.R_below Fx1.out hb); clear Fx1; have Fx1 := n_; clear n_; have n_ := Aside0.mk (Kd.S_below FW.out hb); clear FW; have FW := n_; clear n_; have n_ := Aside0.mk (Kd.R_below Fx6.out hb); clear Fx6; have Fx6 := n_; clear n_; have n_ := Aside0.mk (Kd.S_below FG2.out hb); clear FG2; have FG2 := n_; clear n_; clear B; have B := B_; clear B_ hb; have Fx12 := ho_; clear ho_) | (go_at_call 31; clear M18; refine (impl_BreakLines.calls k _ _ x12 (a1) H _ ?s0 ?s1 Q18.out).mono ?_; (case s0 => exact (Kd.R_reads' Fx12.out).2.2); (case s1 => exact (Kd.R_reads' Fx12.out).2.1); rintro e w18 ⟨v18, rfl, ho, hb⟩; obtain ⟨A_H, c_H, rfl⟩ := Kd.S_slice ho; have ho_ := Aside0.mk (Kd.S_lower (Kd.S_mono (Kd.S_bound ho) (fun k_ hk => (⟨hk.2.1, hk.2.2.1⟩ : w17.heap.size ≤ k_ ∧ k_ < w18.heap.size))) B.out.size); clear ho; have B_ := Aside0.mk (below_step B.out hb); have O18 := Aside0.mk hb.size; have n_ := Aside0.mk (Kd.R_below Fx1.out hb); clear Fx1; have Fx1 := n_; clear n_; have n_ := Aside0.mk (Kd.S_below FW.out hb); clear FW; have FW := n_; clear n_; have n_ := Aside0.mk (Kd.R_below Fx6.out hb); clear Fx6; have Fx6 := n_; clear n_; have n_ := Aside0.mk (Kd.S_below FG2.out hb); clear FG2; have FG2 := n_; clear n_; have n_ := Aside0.mk (Kd.R_below Fx12.out hb); clear Fx12; have Fx12 := n_; clear n_; clear B; have B := B_; clear B_ hb; have FH := ho_; clear ho_) | (go_at_call 32; clear M19; refine (laws_eqIntSS.calls k _ _ H _ _ W true _ ?s0 ?s1 ?s2 ?s3 Q19.out).mono ?_; (case s0 => exact (Kd.S_reads' FH.out).2.2); (case s1 => exact (Kd.S_reads' FH.out).2.1); (case s2 => exact (Kd.S_reads' FW.out).2.2); (case s3 => exact (Kd.S_reads' FW.out).2.1); rintro e w19 ⟨rfl, hd⟩; have hb := hd.below; clear hd; have B_ := Aside0.mk (below_step B.out hb); have O19 := Aside0.mk hb.size; have n_ := Aside0.mk (Kd.R_below Fx1.out hb); clear Fx1; have Fx1 := n_; clear n_; have n_ := Aside0.mk (Kd.S_below FW.out hb); clear FW; have FW := n_; clear n_; have n_ := Aside0.mk (Kd.R_below Fx6.out hb); clear Fx6; have Fx6 := n_; clear n_; have n_ := Aside0.mk (Kd.S_below FG2.out hb); clear FG2; have FG2 := n_; clear n_; have n_ := Aside0.mk (Kd.R_below Fx12.out hb); clear Fx12; have Fx12 := n_; clear n_; have n_ := Aside0.mk (Kd.S_below FH.out hb); clear FH; have FH := n_; clear n_; clear B; have B := B_; clear B_ hb) | (go_at_call 34; clear M21; refine (laws_heldIntSS.calls k _ _ G2 (1) m10 _ ?s0 ?s1 Q21.out).mono ?_; (case s0 => exact (Kd.S_reads' FG2.out).2.2); (case s1 => exact (Kd.S_reads' FG2.out).2.1); rintro e w21 ⟨rfl, hd⟩; have hb := hd.below; clear hd; have B_ := Aside0.mk (below_step B.out hb); have O21 := Aside0.mk hb.size; have n_ := Aside0.mk (Kd.R_below Fx1.out hb); clear Fx1; have Fx1 := n_; clear n_; have n_ := Aside0.mk (Kd.S_below FW.out hb); clear FW; have FW := n_; clear n_; have n_ := Aside0.mk (Kd.R_below Fx6.out hb); clear Fx6; have Fx6 := n_; clear n_; have n_ := Aside0.mk (Kd.S_below FG2.out hb); clear FG2; have FG2 := n_; clear n_; have n_ := Aside0.mk (Kd.R_below Fx12.out hb); clear Fx12; have Fx12 := n_; clear n_; have n_ := Aside0.mk (Kd.S_below FH.out hb); clear FH; have FH := n_; clear n_; clear B; have B := B_; clear B_ hb))
  go_ret
  exact ⟨rfl, B.out⟩

end Go.Proofs.Ytifaojbmdahoiaa.PFnExactBreakLines
